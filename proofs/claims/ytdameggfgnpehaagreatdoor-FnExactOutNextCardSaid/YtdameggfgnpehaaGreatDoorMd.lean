/- What the proof needs, part 4: a sound evaluator over trees, the program's functions on it, and what they come to. -/
import Derived.Test.YtdameggfgnpehaaGreatDoorMc
import Derived.Lib.TrimUEq
import Derived.Lib.ValidLaws
import Derived.Lib.MapLaws
set_option linter.unusedVariables false
set_option linter.unusedSimpArgs false
set_option maxRecDepth 100000
namespace Go.Proofs.YtdameggfgnpehaaGreatDoor.Abs
open Go
theorem and31 : ∀ X : Fin 256, bits .and .i64 ((X.val : Nat) : Int) 31 = ((X.val % 32 : Nat) : Int) := by decide +kernel
theorem and15 : ∀ X : Fin 256, bits .and .i64 ((X.val : Nat) : Int) 15 = ((X.val % 16 : Nat) : Int) := by decide +kernel
theorem and7' : ∀ X : Fin 256, bits .and .i64 ((X.val : Nat) : Int) 7 = ((X.val % 8 : Nat) : Int) := by decide +kernel
def runeAV (d : Nat × Nat) (i : Nat) : AV := if d.1 = 65533 ∧ d.2 = 1 then .tup [.sc (.int .i64 0), .sc (.int .i64 0), .sc (.bool false)] else .tup [.sc (.int .i64 d.1), .sc (.int .i64 ((i + d.2 : Nat) : Int)), .sc (.bool true)]
def failAV : AV := .tup [.sc (.int .i64 0), .sc (.int .i64 0), .sc (.bool false)]
theorem by_at (s : ByteArray) (i : Nat) (h : i < s.size) (H : Heap) (k : AV → Option AV) : (pIadr 1 (bytesC s) (.sc (.int .i64 i)) fun t => pLoad false 1 t H k) = k (.sc (.int .u8 (s.data.toList.getD i 0).toNat)) := by
 rw [iadr_ro 1 _ _ i _ h (by rw [bytesAV_len]; omega)]
 have hl : i < s.data.toList.length := by simpa using h
 have hd : (bytesAV s).drop (i * 1) = .sc (.int .u8 (s.data.toList.getD i 0).toNat) :: (bytesAV s).drop (i + 1) := by
  rw [Nat.mul_one, List.drop_eq_getElem_cons (by rw [bytesAV_len]; omega)]
  congr 1
  simp [bytesAV, List.getD_eq_getElem?_getD, h]
 rw [hd, ld1_rp]
section loop
variable (n : Nat) (k : AV → Heap → Option AV) (H : Heap) (s : ByteArray)
theorem rune_step (m at' N v i : Nat) (least : Int) (hi : i ≤ N) (hb : at' + i < s.size) (hN : N ≤ 3) (hv : v < 100000000) (hs : s.size ≤ 1048576) :
  f172_l0 (PR n AV) n k (m + 1) (bytesC s) (.sc (.int .i64 at')) (.sc (.int .i64 N)) (.sc (.int .i64 least)) (.sc (.int .i64 v)) (.sc (.int .i64 i)) H =
   if (s.data.toList.getD (at' + i) 0).toNat / 64 = 2 then f172_l0 (PR n AV) n k m (bytesC s) (.sc (.int .i64 at')) (.sc (.int .i64 N)) (.sc (.int .i64 least)) (.sc (.int .i64 ((v * 64 + (s.data.toList.getD (at' + i) 0).toNat % 64 : Nat) : Int))) (.sc (.int .i64 ((i + 1 : Nat) : Int))) H else k failAV H := by
 obtain ⟨y, hy⟩ : ∃ y, (s.data.toList.getD (at' + i) 0).toNat = y := ⟨_, rfl⟩
 have hylt : y < 256 := by rw [← hy]; exact (s.data.toList.getD (at' + i) 0).toNat_lt
 have hba := by_at s (at' + i) hb H
 rw [hy] at hba ⊢
 rw [f172_l0]
 simp only [PR_bin, PR_cond, PR_iadr, PR_load, PR_cvI, PR_guard, PR_pick]
 rw [leq64, cond_b, if_pos (by simp; omega), add64, ← Int.natCast_add, wrap64 _ (by omega) (by omega), hba]
 simp only [pCvI, asI, Option.bind_some]
 rw [wrap64 _ (by omega) (by omega), lss64]
 by_cases h1 : y < 128
 ·refine w_hF (by simp; omega) ?_
  refine w_hF (by simp; omega) ?_
  refine w_pT (by simp; omega) ?_
  rw [if_neg (by omega)]
  rfl
 ·refine w_hT (by simp; omega) ?_
  refine w_hT (by simp; omega) ?_
  rw [gtr64]
  refine w_pF (by simp; omega) ?_
  by_cases h2 : y ≤ 191
  ·rw [cond_b, if_neg (by simp; omega), if_pos (by omega), mul64, show (v : Int) * 64 = ((v * 64 : Nat) : Int) by omega, wrap64 _ (by omega) (by omega), add64, ← Int.natCast_add, wrap64 _ (by omega) (by omega), sub64 _ _ _ (by omega) (by omega), inc_nat _ _ (by omega)]
   congr 3
   omega
  ·rw [cond_b, if_pos (by simp; omega), if_neg (by omega)]
   rfl
theorem rune_end (n' : Nat) (hnn : n = n' + 1) (m at' N v least : Nat) (hN : N ≤ 3) (hv : v < 100000000) (ha : at' ≤ 1048576) :
  f172_l0 (PR n AV) n k (m + 1) (bytesC s) (.sc (.int .i64 at')) (.sc (.int .i64 N)) (.sc (.int .i64 least)) (.sc (.int .i64 v)) (.sc (.int .i64 ((N + 1 : Nat) : Int))) H =
   if v ≥ least ∧ (v < 55296 ∨ (57344 ≤ v ∧ v ≤ 1114111)) then k (.tup [.sc (.int .i64 v), .sc (.int .i64 ((at' + (N + 1) : Nat) : Int)), .sc (.bool true)]) H else k failAV H := by
 subst hnn
 rw [f172_l0]
 simp only [PR_bin, PR_cond, PR_iadr, PR_load, PR_cvI, PR_guard, PR_pick]
 rw [leq64, cond_b, if_neg (by simp; omega), lss64]
 by_cases h1 : v < least
 ·have e : decide ((v : Int) < (least : Int)) = true := by simp; omega
  refine w_hF e ?_
  refine w_hF e ?_
  refine w_pT e ?_
  refine w_hF rfl ?_
  refine w_hF rfl ?_
  refine w_pT rfl ?_
  refine w_cT rfl ?_
  rw [if_neg (by omega)]
  rfl
 ·have e : decide ((v : Int) < (least : Int)) = false := by simp; omega
  refine w_hT e ?_
  refine w_hT e ?_
  refine w_bin (v := .sc (.bool (decide ((v : Int) > 1114111)))) (fun k => rfl) ?_
  refine w_pF e ?_
  by_cases h2 : v > 1114111
  ·have e2 : decide ((v : Int) > 1114111) = true := by simp; omega
   refine w_hF e2 ?_
   refine w_hF e2 ?_
   refine w_pT e2 ?_
   refine w_cT rfl ?_
   rw [if_neg (by omega)]
   rfl
  ·have e2 : decide ((v : Int) > 1114111) = false := by simp; omega
   refine w_hT e2 ?_
   refine w_hT e2 ?_
   refine lw_sc rfl (vcons (Vw_sc _ _) (vcons (Vw_sc _ _) (vcons (Vw_sc _ _) vnil))) (l1InF n' _ v 55296 57343) ?_
   refine w_pF e2 ?_
   by_cases h3 : 55296 ≤ v ∧ v ≤ 57343
   ·refine w_cT (by simp [vIn]; omega) ?_
    rw [if_neg (by omega)]
    rfl
   ·refine w_cF (by simp [vIn]; omega) ?_
    have e5 : ((at' : Int) + 1 + (N : Int)) = ((at' + (N + 1) : Nat) : Int) := by omega
    rw [if_pos (by omega), add64, wrap64 _ (by omega) (by omega), add64, wrap64 _ (by omega) (by omega), e5]
    rfl
end loop
theorem own_tup3 (H : Heap) (a b c : Value) : ownTree ti0 E0.tp 177 H (.tup [.sc a, .sc b, .sc c]) = some (.tup [.sc a, .sc b, .sc c]) := rfl
set_option maxHeartbeats 1600000 in
theorem runeAtF (n : Nat) (hn : 1048576 < n) (s : ByteArray) (i : Nat) (hs : s.size ≤ 1048576) (hi : i < s.size) : tree E0 (n + 2) 177 172 [bytesC s, .sc (.int .i64 i)] = some (runeAV (Lib.decodeL (s.data.toList.drop i)) i) := by
 have hg : ∀ j, (s.data.toList.drop i).getD j 0 = s.data.toList.getD (i + j) 0 := fun j => by simp [List.getD_eq_getElem?_getD, List.getElem?_drop]
 have hL : (s.data.toList.drop i).length = s.size - i := by simp
 have hg0 : (s.data.toList.drop i).getD 0 0 = s.data.toList.getD i 0 := hg 0
 rw [Lib.decodeL_N, hL, hg0, hg 1, hg 2, hg 3]
 obtain ⟨x, hx⟩ : ∃ x, (s.data.toList.getD i 0).toNat = x := ⟨_, rfl⟩
 have hxl : x < 256 := by rw [← hx]; exact (s.data.toList.getD i 0).toNat_lt
 obtain ⟨y1, hy1⟩ : ∃ x, (s.data.toList.getD (i + 1) 0).toNat = x := ⟨_, rfl⟩
 obtain ⟨y2, hy2⟩ : ∃ x, (s.data.toList.getD (i + 2) 0).toNat = x := ⟨_, rfl⟩
 obtain ⟨y3, hy3⟩ : ∃ x, (s.data.toList.getD (i + 3) 0).toNat = x := ⟨_, rfl⟩
 have b1 : y1 < 256 := by rw [← hy1]; exact (s.data.toList.getD (i + 1) 0).toNat_lt
 have b2 : y2 < 256 := by rw [← hy2]; exact (s.data.toList.getD (i + 2) 0).toNat_lt
 have b3 : y3 < 256 := by rw [← hy3]; exact (s.data.toList.getD (i + 3) 0).toNat_lt
 have hba := by_at s i hi []
 rw [hx] at hba
 rw [hx, hy1, hy2, hy3]
 have fails : Lib.decodeN (s.size - i) x y1 y2 y3 = (65533, 1) → some failAV = some (runeAV (Lib.decodeN (s.size - i) x y1 y2 y3) i) := fun h => by rw [h]; rfl
 have goes : ∀ v w, Lib.decodeN (s.size - i) x y1 y2 y3 = (v, w) → (w = 1 → v < 128) → some (.tup [.sc (.int .i64 v), .sc (.int .i64 ((i + w : Nat) : Int)), .sc (.bool true)]) = some (runeAV (Lib.decodeN (s.size - i) x y1 y2 y3) i) := fun v w h hw => by
  rw [h, runeAV, if_neg (by intro h; simp only at h; omega)]
 rw [tree_def, f172_eq, f172]
 simp only [PR_bin, PR_cond, PR_iadr, PR_load, PR_cvI, PR_guard, PR_pick, PR_len]
 have e0 : decide ((i : Int) < 0) = false := by simp
 rw [lss64]
 refine w_hT e0 ?_
 refine w_hT e0 ?_
 refine w_hT e0 ?_
 refine w_len ?_
 refine w_hT e0 ?_
 refine w_bin (v := .sc (.bool (decide ((i : Int) ≥ (s.size : Int))))) (fun k => rfl) ?_
 refine w_pF e0 ?_
 refine w_cF (by simp; omega) ?_
 rw [hba]
 simp only [pCvI, asI, Option.bind_some]
 rw [wrap64 _ (by omega) (by omega), lss64]
 by_cases c1 : x < 128
 ·refine w_cT (by simp; omega) ?_
  rw [inc_nat _ _ (by omega)]
  exact (own_tup3 _ _ _ _).trans (goes x 1 (by rw [Lib.decodeN, if_pos c1]) (fun _ => c1))
 ·refine w_cF (by simp; omega) ?_
  obtain ⟨q, rfl⟩ : ∃ q, n = q + 4 := ⟨n - 4, by omega⟩
  apply w_merge (decide ((x : Int) ≥ 192) && decide ((x : Int) < 224))
  ·intro b hb
   refine w_bin (v := .sc (.bool (decide ((x : Int) ≥ 192)))) (fun k => rfl) ?_
   refine w_split (decide ((x : Int) ≥ 192)) (fun h => ?_) (fun h => ?_)
   ·refine w_gT h ?_
    refine w_gT h ?_
    refine w_bin (v := .sc (.bool (decide ((x : Int) < 224)))) (fun k => rfl) ?_
    refine w_pTb h (mAT hb h) ?_
    exact rfl
   ·refine w_gF h ?_
    refine w_gF h ?_
    refine w_pFb h (mAF hb h) ?_
    exact rfl
  intro b0 hb0
  by_cases d0 : 192 ≤ x ∧ x < 224
  ·refine w_cT (by rw [hb0]; simp; omega) ?_
   refine w_bin (v := .sc (.int .i64 ((x % 32 : Nat) : Int))) (fun k => by show k (.sc (.int .i64 (bits .and .i64 (x : Int) 31))) = _; rw [and31 ⟨x, hxl⟩]) ?_
   refine w_len ?_
   refine w_bin (v := .sc (.int .i64 ((s.size : Int) - 1))) (fun k => sub64 _ _ _ (by omega) (by omega)) ?_
   refine w_bin (v := .sc (.int .i64 ((s.size : Int) - 1 - 1))) (fun k => sub64 _ _ _ (by omega) (by omega)) ?_
   refine w_bin (v := .sc (.bool (decide ((i : Int) > (s.size : Int) - 1 - 1)))) (fun k => rfl) ?_
   by_cases c3 : i + 1 < s.size
   ·refine w_cF (by simp; omega) ?_
    have r1 := rune_step (q + 4 + 1) (fun x H => ownTree ti0 E0.tp 177 H x) [] s (q + 4) i 1 (x % 32) 1 128 (by omega) (by omega) (by omega) (by omega) hs
    rw [hy1] at r1
    refine r1.trans ?_
    by_cases k1 : y1 / 64 = 2
    rotate_left
    ·rw [if_neg k1]
     exact (own_tup3 _ _ _ _).trans (fails (by unfold Lib.decodeN; rw [if_neg c1, if_neg (by omega), if_neg (by omega), if_neg (by omega)]))
    rw [if_pos k1]
    refine (rune_end (q + 4 + 1) (fun x H => ownTree ti0 E0.tp 177 H x) [] s (q + 4) rfl (q + 3) i 1 ((x % 32) * 64 + y1 % 64) 128 (by omega) (by omega) (by omega)).trans ?_
    have hv : (x % 32) * 64 + y1 % 64 = x % 32 * 64 + y1 % 64 := by omega
    rw [hv]
    split
    ·exact (own_tup3 _ _ _ _).trans (goes _ 2 (by unfold Lib.decodeN; rw [if_neg c1, if_pos (by omega), if_pos (by omega)]) (by omega))
    ·exact (own_tup3 _ _ _ _).trans (fails (by unfold Lib.decodeN; rw [if_neg c1, if_pos (by omega), if_neg (by omega)]))
   ·refine w_cT (by simp; omega) ?_
    exact (own_tup3 _ _ _ _).trans (fails (by unfold Lib.decodeN; rw [if_neg c1, if_neg (by omega), if_neg (by omega), if_neg (by omega)]))
  ·refine w_cF (by rw [hb0]; simp; omega) ?_
   apply w_merge (decide ((x : Int) ≥ 224) && decide ((x : Int) < 240))
   ·intro b hb
    refine w_bin (v := .sc (.bool (decide ((x : Int) ≥ 224)))) (fun k => rfl) ?_
    refine w_split (decide ((x : Int) ≥ 224)) (fun h => ?_) (fun h => ?_)
    ·refine w_gT h ?_
     refine w_gT h ?_
     refine w_bin (v := .sc (.bool (decide ((x : Int) < 240)))) (fun k => rfl) ?_
     refine w_pTb h (mAT hb h) ?_
     exact rfl
    ·refine w_gF h ?_
     refine w_gF h ?_
     refine w_pFb h (mAF hb h) ?_
     exact rfl
   intro b1 hb1
   by_cases d1 : 224 ≤ x ∧ x < 240
   ·refine w_cT (by rw [hb1]; simp; omega) ?_
    refine w_bin (v := .sc (.int .i64 ((x % 16 : Nat) : Int))) (fun k => by show k (.sc (.int .i64 (bits .and .i64 (x : Int) 15))) = _; rw [and15 ⟨x, hxl⟩]) ?_
    refine w_len ?_
    refine w_bin (v := .sc (.int .i64 ((s.size : Int) - 1))) (fun k => sub64 _ _ _ (by omega) (by omega)) ?_
    refine w_bin (v := .sc (.int .i64 ((s.size : Int) - 1 - 2))) (fun k => sub64 _ _ _ (by omega) (by omega)) ?_
    refine w_bin (v := .sc (.bool (decide ((i : Int) > (s.size : Int) - 1 - 2)))) (fun k => rfl) ?_
    by_cases c3 : i + 2 < s.size
    ·refine w_cF (by simp; omega) ?_
     have r1 := rune_step (q + 4 + 1) (fun x H => ownTree ti0 E0.tp 177 H x) [] s (q + 4) i 2 (x % 16) 1 2048 (by omega) (by omega) (by omega) (by omega) hs
     rw [hy1] at r1
     refine r1.trans ?_
     by_cases k1 : y1 / 64 = 2
     rotate_left
     ·rw [if_neg k1]
      exact (own_tup3 _ _ _ _).trans (fails (by unfold Lib.decodeN; rw [if_neg c1, if_neg (by omega), if_neg (by omega), if_neg (by omega)]))
     rw [if_pos k1]
     have r2 := rune_step (q + 4 + 1) (fun x H => ownTree ti0 E0.tp 177 H x) [] s (q + 3) i 2 ((x % 16) * 64 + y1 % 64) 2 2048 (by omega) (by omega) (by omega) (by omega) hs
     rw [hy2] at r2
     refine r2.trans ?_
     by_cases k2 : y2 / 64 = 2
     rotate_left
     ·rw [if_neg k2]
      exact (own_tup3 _ _ _ _).trans (fails (by unfold Lib.decodeN; rw [if_neg c1, if_neg (by omega), if_neg (by omega), if_neg (by omega)]))
     rw [if_pos k2]
     refine (rune_end (q + 4 + 1) (fun x H => ownTree ti0 E0.tp 177 H x) [] s (q + 4) rfl (q + 2) i 2 (((x % 16) * 64 + y1 % 64) * 64 + y2 % 64) 2048 (by omega) (by omega) (by omega)).trans ?_
     have hv : ((x % 16) * 64 + y1 % 64) * 64 + y2 % 64 = x % 16 * 4096 + y1 % 64 * 64 + y2 % 64 := by omega
     rw [hv]
     split
     ·exact (own_tup3 _ _ _ _).trans (goes _ 3 (by unfold Lib.decodeN; rw [if_neg c1, if_neg (by omega), if_pos (by omega), if_pos (by omega)]) (by omega))
     ·exact (own_tup3 _ _ _ _).trans (fails (by unfold Lib.decodeN; rw [if_neg c1, if_neg (by omega), if_pos (by omega), if_neg (by omega)]))
    ·refine w_cT (by simp; omega) ?_
     exact (own_tup3 _ _ _ _).trans (fails (by unfold Lib.decodeN; rw [if_neg c1, if_neg (by omega), if_neg (by omega), if_neg (by omega)]))
   ·refine w_cF (by rw [hb1]; simp; omega) ?_
    apply w_merge (decide ((x : Int) ≥ 240) && decide ((x : Int) < 248))
    ·intro b hb
     refine w_bin (v := .sc (.bool (decide ((x : Int) ≥ 240)))) (fun k => rfl) ?_
     refine w_split (decide ((x : Int) ≥ 240)) (fun h => ?_) (fun h => ?_)
     ·refine w_gT h ?_
      refine w_gT h ?_
      refine w_bin (v := .sc (.bool (decide ((x : Int) < 248)))) (fun k => rfl) ?_
      refine w_pTb h (mAT hb h) ?_
      exact rfl
     ·refine w_gF h ?_
      refine w_gF h ?_
      refine w_pFb h (mAF hb h) ?_
      exact rfl
    intro b2 hb2
    by_cases d2 : 240 ≤ x ∧ x < 248
    ·refine w_cT (by rw [hb2]; simp; omega) ?_
     refine w_bin (v := .sc (.int .i64 ((x % 8 : Nat) : Int))) (fun k => by show k (.sc (.int .i64 (bits .and .i64 (x : Int) 7))) = _; rw [and7' ⟨x, hxl⟩]) ?_
     refine w_len ?_
     refine w_bin (v := .sc (.int .i64 ((s.size : Int) - 1))) (fun k => sub64 _ _ _ (by omega) (by omega)) ?_
     refine w_bin (v := .sc (.int .i64 ((s.size : Int) - 1 - 3))) (fun k => sub64 _ _ _ (by omega) (by omega)) ?_
     refine w_bin (v := .sc (.bool (decide ((i : Int) > (s.size : Int) - 1 - 3)))) (fun k => rfl) ?_
     by_cases c3 : i + 3 < s.size
     ·refine w_cF (by simp; omega) ?_
      have r1 := rune_step (q + 4 + 1) (fun x H => ownTree ti0 E0.tp 177 H x) [] s (q + 4) i 3 (x % 8) 1 65536 (by omega) (by omega) (by omega) (by omega) hs
      rw [hy1] at r1
      refine r1.trans ?_
      by_cases k1 : y1 / 64 = 2
      rotate_left
      ·rw [if_neg k1]
       exact (own_tup3 _ _ _ _).trans (fails (by unfold Lib.decodeN; rw [if_neg c1, if_neg (by omega), if_neg (by omega), if_neg (by omega)]))
      rw [if_pos k1]
      have r2 := rune_step (q + 4 + 1) (fun x H => ownTree ti0 E0.tp 177 H x) [] s (q + 3) i 3 ((x % 8) * 64 + y1 % 64) 2 65536 (by omega) (by omega) (by omega) (by omega) hs
      rw [hy2] at r2
      refine r2.trans ?_
      by_cases k2 : y2 / 64 = 2
      rotate_left
      ·rw [if_neg k2]
       exact (own_tup3 _ _ _ _).trans (fails (by unfold Lib.decodeN; rw [if_neg c1, if_neg (by omega), if_neg (by omega), if_neg (by omega)]))
      rw [if_pos k2]
      have r3 := rune_step (q + 4 + 1) (fun x H => ownTree ti0 E0.tp 177 H x) [] s (q + 2) i 3 (((x % 8) * 64 + y1 % 64) * 64 + y2 % 64) 3 65536 (by omega) (by omega) (by omega) (by omega) hs
      rw [hy3] at r3
      refine r3.trans ?_
      by_cases k3 : y3 / 64 = 2
      rotate_left
      ·rw [if_neg k3]
       exact (own_tup3 _ _ _ _).trans (fails (by unfold Lib.decodeN; rw [if_neg c1, if_neg (by omega), if_neg (by omega), if_neg (by omega)]))
      rw [if_pos k3]
      refine (rune_end (q + 4 + 1) (fun x H => ownTree ti0 E0.tp 177 H x) [] s (q + 4) rfl (q + 1) i 3 ((((x % 8) * 64 + y1 % 64) * 64 + y2 % 64) * 64 + y3 % 64) 65536 (by omega) (by omega) (by omega)).trans ?_
      have hv : (((x % 8) * 64 + y1 % 64) * 64 + y2 % 64) * 64 + y3 % 64 = x % 8 * 262144 + y1 % 64 * 4096 + y2 % 64 * 64 + y3 % 64 := by omega
      rw [hv]
      split
      ·exact (own_tup3 _ _ _ _).trans (goes _ 4 (by unfold Lib.decodeN; rw [if_neg c1, if_neg (by omega), if_neg (by omega), if_pos (by omega), if_pos (by omega)]) (by omega))
      ·exact (own_tup3 _ _ _ _).trans (fails (by unfold Lib.decodeN; rw [if_neg c1, if_neg (by omega), if_neg (by omega), if_pos (by omega), if_neg (by omega)]))
     ·refine w_cT (by simp; omega) ?_
      exact (own_tup3 _ _ _ _).trans (fails (by unfold Lib.decodeN; rw [if_neg c1, if_neg (by omega), if_neg (by omega), if_neg (by omega)]))
    ·refine w_cF (by rw [hb2]; simp; omega) ?_
     exact (own_tup3 _ _ _ _).trans (fails (by unfold Lib.decodeN; rw [if_neg c1, if_neg (by omega), if_neg (by omega), if_neg (by omega)]))
theorem inst_tup3 (N ty : Nat) (a b c : Value) : instT ti0 E0.tp N ty (.tup [.sc a, .sc b, .sc c]) = (.tup [.sc a, .sc b, .sc c], []) := rfl
theorem Vw_bytes (s : ByteArray) : Vw [⟨bytesAV s, true, false⟩] (.sl 0 0 s.size 1) (bytesC s) := fun X => by
 have e2 : rdCells ([⟨bytesAV s, true, false⟩] ++ X) 0 0 (s.size * 1) = some (bytesAV s) := by
  have hl := bytesAV_len s
  show (if (0 + s.size * 1 ≤ (bytesAV s).length) then some (((bytesAV s).drop 0).take (s.size * 1)) else none) = _
  rw [if_pos (by omega), List.drop_zero, Nat.mul_one, ← hl, List.take_length]
 rw [viewV_sl, e2, Option.bind_some]
 have e3 : (bytesAV s).mapM (viewV ([⟨bytesAV s, true, false⟩] ++ X) 7) = some (bytesAV s) := by
  rw [bytesAV_eq]
  exact mapM_sc _
 rw [e3]
 rfl
theorem w_extr {vs : List AV} {i : Nat} {x : AV} {K : AV → Option AV} {r : Option AV} (hx : vs[i]? = some x) (h : K x = r) : pExtr (.tup vs) i (fun t => K t) = r := by
 show (vs[i]?).bind _ = r
 rw [hx]
 exact h
theorem count_loop (n : Nat) (hn : 1048576 < n) (k : AV → Heap → Option AV) (s : ByteArray) (hs : s.size ≤ 60) : ∀ (b m pos c : Nat), s.size ≤ pos + b → pos ≤ s.size → c ≤ pos → b < m →
  ∃ r : Int, f141_l0 (PR (n + 2) AV) (n + 2) k m (.sl 0 0 s.size 1) (.sc (.int .i64 c)) (.sc (.int .i64 pos)) [⟨bytesAV s, true, false⟩] = k (.sc (.int .i64 r)) [⟨bytesAV s, true, false⟩] ∧ (textGo b (s.data.toList.drop pos) = true → 0 ≤ r) ∧ (textGo b (s.data.toList.drop pos) = false → r = -1)
 | b, m + 1, pos, c, hb, hp, hc, hm => by
  rw [f141_l0]
  simp only [PR_len, PR_bin, PR_cond, PR_extr, PR_un, PR_guard, PR_pick]
  have hlen : ∀ k : AV → Option AV, pLen (.sl 0 0 s.size 1) k = k (.sc (.int .i64 s.size)) := fun _ => rfl
  rw [hlen, lss_nat, cond_b]
  by_cases hlt : pos < s.size
  ·rw [if_pos (by simpa using hlt)]
   obtain ⟨b, rfl⟩ : ∃ b', b = b' + 1 := ⟨b - 1, by omega⟩
   have hne : s.data.toList.drop pos ≠ [] := by
    intro h
    have := congrArg List.length h
    simp at this
    omega
   have hw := Lib.decodeL_width (s.data.toList.drop pos)
   have hle := Lib.decodeL_le (s.data.toList.drop pos) hne
   have hll : (s.data.toList.drop pos).length = s.size - pos := by simp
   rw [hll] at hle
   rw [textGo, if_neg hne]
   generalize hd : Lib.decodeL (s.data.toList.drop pos) = d at hw hle ⊢
   have ht := runeAtF n hn s pos (by omega) hlt
   rw [hd] at ht
   rw [PR_call (vs := [bytesC s, .sc (.int .i64 pos)]) rfl (vcons (Vw_bytes s) (vcons (Vw_sc _ _) vnil)) ht]
   by_cases hf : d.1 = 65533 ∧ d.2 = 1
   ·rw [runeAV, if_pos hf, inst_tup3, List.append_nil, if_pos hf]
    refine ⟨-1, ?_, (fun h => by cases h), (fun _ => rfl)⟩
    refine w_extr rfl ?_
    refine w_extr rfl ?_
    refine w_extr rfl ?_
    refine w_not ?_
    refine w_hF rfl ?_
    refine w_hF rfl ?_
    refine w_pT rfl ?_
    refine w_cT rfl ?_
    rfl
   ·rw [runeAV, if_neg hf, inst_tup3, List.append_nil, if_neg hf]
    by_cases hz : d.1 = 0
    ·rw [if_pos hz]
     refine ⟨-1, ?_, (fun h => by cases h), (fun _ => rfl)⟩
     refine w_extr rfl ?_
     refine w_extr rfl ?_
     refine w_extr rfl ?_
     refine w_not ?_
     refine w_hT rfl ?_
     refine w_hT rfl ?_
     refine w_bin (v := .sc (.bool ((d.1 : Int) == 0))) (fun k => rfl) ?_
     refine w_pF rfl ?_
     refine w_cT (by simp [hz]) ?_
     rfl
    ·rw [if_neg hz, List.drop_drop]
     obtain ⟨r, h1, h2, h3⟩ := count_loop n hn k s hs b m (pos + d.2) (c + 1) (by omega) (by omega) (by omega) (by omega)
     refine ⟨r, ?_, h2, h3⟩
     refine w_extr rfl ?_
     refine w_extr rfl ?_
     refine w_extr rfl ?_
     refine w_not ?_
     refine w_hT rfl ?_
     refine w_hT rfl ?_
     refine w_bin (v := .sc (.bool ((d.1 : Int) == 0))) (fun k => rfl) ?_
     refine w_pF rfl ?_
     refine w_cF (by simp; omega) ?_
     rw [inc_nat _ _ (by omega)]
     exact h1
  ·rw [if_neg (by simpa using hlt)]
   have hnil : s.data.toList.drop pos = [] := by
    apply List.drop_of_length_le
    simp
    omega
   refine ⟨c, rfl, fun _ => by omega, fun h => ?_⟩
   rw [hnil] at h
   cases b <;> simp [textGo] at h
theorem countF (n : Nat) (hn : 1048576 < n) (ty : Nat) (s : ByteArray) : ∃ r : Int, tree E0 (n + 3) ty 141 [.sc (.string s)] = some (.sc (.int .i64 r)) ∧ (vTextOk s = true → 0 ≤ r) ∧ (vTextOk s = false → r = -1) := by
 rw [tree_def, f141_eq, f141]
 simp only [PR_lenS, PR_bin, PR_cond, PR_cvSB]
 unfold vTextOk
 by_cases h : s.size ≤ 60
 ·obtain ⟨r, h1, h2, h3⟩ := count_loop n hn (fun x H => ownTree ti0 E0.tp ty H x) s h s.size (n + 2) 0 0 (by omega) (by omega) (by omega) (by omega)
  refine ⟨r, ?_, ?_, ?_⟩
  ·refine w_lenS ?_
   refine w_bin (v := .sc (.bool (decide ((s.size : Int) > 60)))) (fun k => rfl) ?_
   refine w_cF (by simp; omega) ?_
   simp only [pCvSB, asS, Option.bind_some]
   rw [if_pos (by omega)]
   exact h1
  ·intro hv
   refine h2 ?_
   simpa [h] using hv
  ·intro hv
   refine h3 ?_
   simpa [h] using hv
 ·refine ⟨-1, ?_, (fun hv => by simp [h] at hv), (fun _ => rfl)⟩
  refine w_lenS ?_
  refine w_bin (v := .sc (.bool (decide ((s.size : Int) > 60)))) (fun k => rfl) ?_
  refine w_cT (by simp; omega) ?_
  rfl
theorem specTextF (n : Nat) (hn : 1048576 < n) (ty : Nat) (s : ByteArray) : tree E0 (n + 4) ty 82 [.sc (.string s)] = some (.sc (.bool (vTextOk s))) := by
 rw [tree_def, f82_eq, f82]
 simp only [PR_bin]
 obtain ⟨r, h1, h2, h3⟩ := countF n hn 3 s
 refine lw_sc rfl (vcons (Vw_sc _ _) vnil) h1 ?_
 refine w_bin (v := .sc (.bool (decide (r ≥ 0)))) (fun k => rfl) ?_
 refine w_endB ?_
 cases hv : vTextOk s
 ·rw [h3 hv]
  rfl
 ·simpa using h2 hv
theorem lw_ext {β : Type} {n : Nat} {H : Heap} {r : Option β} {ty f : Nat} {g : Nat → List AV → Option AV} {args vs : List AV} {v : Value} {K : AV → Heap → Option β} (hg : E0.ext f = some g) (hv : args.mapM (viewV H 8) = some vs) (ht : g ty vs = some (.sc v)) (h : K (.sc v) H = r) : (PR n β).call ty (.fn f [] []) args H (fun x H => K x H) = r := by
 rw [PR_ext hg hv ht, instT_sc, List.append_nil]
 exact h
theorem implTextF (ty : Nat) (s : ByteArray) (hs : okS s) : ext136 ty [.sc (.string s)] = some (.sc (.bool (vTextOk s))) := by
 have hm : maxLen = 9223372036854775807 := by decide
 show (if s.size ≤ maxLen then _ else _) = _
 rw [hm, if_pos (show s.size ≤ 9223372036854775807 from hs)]
end Go.Proofs.YtdameggfgnpehaaGreatDoor.Abs
set_option linter.unusedVariables false
set_option linter.unusedSimpArgs false
namespace Go.Proofs.YtdameggfgnpehaaGreatDoor.Abs
open Go
section own
variable {ti : Nat → Option TI} {tp : Nat → Option (List Nat)}
theorem ownL_cons {f : Nat → AV → Option (AV × List Nat)} {t : Nat} {ts : List Nat} {x : AV} {xs : List AV} {p : List AV × List Nat} (h : ownL f (t :: ts) (x :: xs) = some p) :
  ∃ a b, f t x = some a ∧ ownL f ts xs = some b ∧ p = (a.1 :: b.1, a.2 ++ b.2) := by
 simp only [ownL, Option.bind_eq_some_iff] at h
 obtain ⟨a, h1, b, h2, h3⟩ := h
 exact ⟨a, b, h1, h2, (Option.some.inj h3).symm⟩
theorem ownL_nil {f : Nat → AV → Option (AV × List Nat)} {ts : List Nat} {p : List AV × List Nat} (h : ownL f ts [] = some p) : ts = [] ∧ p = ([], []) := by
 cases ts with
 | nil => exact ⟨rfl, (Option.some.inj h).symm⟩
 | cons t ts => simp [ownL] at h
theorem ownL_len {f : Nat → AV → Option (AV × List Nat)} : ∀ {ts : List Nat} {xs : List AV} {p : List AV × List Nat}, ownL f ts xs = some p → ts.length = xs.length ∧ p.1.length = xs.length
 | ts, [], p, h => by
  obtain ⟨rfl, rfl⟩ := ownL_nil h
  exact ⟨rfl, rfl⟩
 | [], _ :: _, p, h => by simp [ownL] at h
 | t :: ts, x :: xs, p, h => by
  obtain ⟨a, b, h1, h2, rfl⟩ := ownL_cons h
  obtain ⟨e1, e2⟩ := ownL_len h2
  simp [e1, e2]
theorem ownL_append {f : Nat → AV → Option (AV × List Nat)} : ∀ {ts us : List Nat} {xs ys : List AV} {p q : List AV × List Nat}, ownL f ts xs = some p → ownL f us ys = some q → ownL f (ts ++ us) (xs ++ ys) = some (p.1 ++ q.1, p.2 ++ q.2)
 | ts, us, [], ys, p, q, h, h' => by
  obtain ⟨rfl, rfl⟩ := ownL_nil h
  exact h'
 | [], _, _ :: _, _, _, _, h, _ => by simp [ownL] at h
 | t :: ts, us, x :: xs, ys, p, q, h, h' => by
  obtain ⟨a, b, h1, h2, rfl⟩ := ownL_cons h
  have ih := ownL_append h2 h'
  rw [List.cons_append, List.cons_append, ownL, h1, Option.bind_some, ih]
  simp
theorem ownL_frame {f f' : Nat → AV → Option (AV × List Nat)} : ∀ {ts : List Nat} {xs : List AV} {p : List AV × List Nat}, (∀ t x a, f t x = some a → (∀ i ∈ a.2, i ∈ p.2) → f' t x = some a) → ownL f ts xs = some p → ownL f' ts xs = some p
 | ts, [], p, _, h => by
  obtain ⟨rfl, rfl⟩ := ownL_nil h
  rfl
 | [], _ :: _, p, _, h => by simp [ownL] at h
 | t :: ts, x :: xs, p, hf, h => by
  obtain ⟨a, b, h1, h2, rfl⟩ := ownL_cons h
  have e1 := hf t x a h1 fun i hi => List.mem_append_left _ hi
  have e2 := ownL_frame (f' := f') (fun t x a' h hi => hf t x a' h fun i hi' => List.mem_append_right _ (hi i hi')) h2
  rw [ownL, e1, Option.bind_some, e2]
  rfl
theorem own_frame {H H' : Heap} : ∀ (d ty : Nat) (x : AV) (p : AV × List Nat), ownT ti tp H d ty x = some p → (∀ i ∈ p.2, H'[i]? = H[i]?) → ownT ti tp H' d ty x = some p
 | 0, _, _, _, h, _ => by simp [ownT] at h
 | d + 1, ty, x, p, h, hs => by
  cases x with
  | sc v => exact h
  | nl => exact h
  | sl id off n z =>
   rw [ownT_sl] at h ⊢
   simp only [Option.bind_eq_some_iff] at h
   obtain ⟨i, h1, j, h2, h3⟩ := h
   split at h3
   case isFalse => cases h3
   rename_i hz
   split at h3
   case isFalse => cases h3
   rename_i ha
   simp only [Option.bind_eq_some_iff] at h3
   obtain ⟨cs, h4, q, h5, h6⟩ := h3
   obtain rfl := (Option.some.inj h6).symm
   have hid := hs id List.mem_cons_self
   have e1 : isApp H' id = true := by simpa only [isApp, hid] using ha
   have e2 : rdCells H' id off (n * z) = some cs := by simpa only [rdCells, hid] using h4
   have e3 := ownL_frame (f' := ownT ti tp H' d) (fun t x a h hi => own_frame d t x a h fun i' hi' => hs i' (List.mem_cons_of_mem _ (hi i' hi'))) h5
   simp only [h1, h2, Option.bind_some, hz, if_true, e1, e3]
   rw [hz] at e2
   rw [e2]
   simp only [Option.bind_some, e3]
  | agg cs =>
   rw [ownT_agg] at h ⊢
   simp only [Option.bind_eq_some_iff] at h
   obtain ⟨i, h1, q, h2, h3⟩ := h
   obtain rfl := (Option.some.inj h3).symm
   have e3 := ownL_frame (f' := ownT ti tp H' d) (fun t x a h hi => own_frame d t x a h fun i' hi' => hs i' (hi i' hi')) h2
   rw [h1, Option.bind_some, e3]
   rfl
  | tup cs =>
   rw [ownT_tup] at h ⊢
   simp only [Option.bind_eq_some_iff] at h
   obtain ⟨i, h1, q, h2, h3⟩ := h
   obtain rfl := (Option.some.inj h3).symm
   have e3 := ownL_frame (f' := ownT ti tp H' d) (fun t x a h hi => own_frame d t x a h fun i' hi' => hs i' (hi i' hi')) h2
   rw [h1, Option.bind_some, e3]
   rfl
  | _ => simp [ownT] at h
theorem ownL_lt {f : Nat → AV → Option (AV × List Nat)} {N : Nat} : ∀ {ts : List Nat} {xs : List AV} {p : List AV × List Nat}, (∀ t x a, f t x = some a → ∀ i ∈ a.2, i < N) → ownL f ts xs = some p → ∀ i ∈ p.2, i < N
 | ts, [], p, _, h => by
  obtain ⟨rfl, rfl⟩ := ownL_nil h
  intro i hi
  cases hi
 | [], _ :: _, p, _, h => by simp [ownL] at h
 | t :: ts, x :: xs, p, hf, h => by
  obtain ⟨a, b, h1, h2, rfl⟩ := ownL_cons h
  intro i hi
  rcases List.mem_append.1 hi with hi | hi
  ·exact hf t x a h1 i hi
  ·exact ownL_lt hf h2 i hi
theorem own_lt {H : Heap} : ∀ (d ty : Nat) (x : AV) (p : AV × List Nat), ownT ti tp H d ty x = some p → ∀ i ∈ p.2, i < H.length
 | 0, _, _, _, h => by simp [ownT] at h
 | d + 1, ty, x, p, h => by
  cases x with
  | sc v =>
   obtain rfl := (Option.some.inj h).symm
   intro i hi
   cases hi
  | nl =>
   obtain rfl := (Option.some.inj h).symm
   intro i hi
   cases hi
  | sl id off n z =>
   rw [ownT_sl] at h
   simp only [Option.bind_eq_some_iff] at h
   obtain ⟨i, h1, j, h2, h3⟩ := h
   split at h3
   case isFalse => cases h3
   split at h3
   case isFalse => cases h3
   rename_i ha
   simp only [Option.bind_eq_some_iff] at h3
   obtain ⟨cs, h4, q, h5, h6⟩ := h3
   obtain rfl := (Option.some.inj h6).symm
   intro i' hi'
   rcases List.mem_cons.1 hi' with rfl | hi'
   ·unfold isApp at ha
    cases hg : H[i']? with
    | none => rw [hg] at ha; cases ha
    | some b => exact (List.getElem?_eq_some_iff.1 hg).1
   ·exact ownL_lt (fun t x a h => own_lt d t x a h) h5 i' hi'
  | agg cs =>
   rw [ownT_agg] at h
   simp only [Option.bind_eq_some_iff] at h
   obtain ⟨i, h1, q, h2, h3⟩ := h
   obtain rfl := (Option.some.inj h3).symm
   exact ownL_lt (fun t x a h => own_lt d t x a h) h2
  | tup cs =>
   rw [ownT_tup] at h
   simp only [Option.bind_eq_some_iff] at h
   obtain ⟨i, h1, q, h2, h3⟩ := h
   obtain rfl := (Option.some.inj h3).symm
   exact ownL_lt (fun t x a h => own_lt d t x a h) h2
  | _ => simp [ownT] at h
end own
def OwnC (d : Nat) (H : Heap) (ts : List Nat) (raw cells : List AV) (ids : List Nat) : Prop := ownL (ownT ti0 E0.tp H d) ts raw = some (cells, ids)
theorem OwnC.frame {d : Nat} {H H' : Heap} {ts : List Nat} {raw cells : List AV} {ids : List Nat} (h : OwnC d H ts raw cells ids) (hs : ∀ i ∈ ids, H'[i]? = H[i]?) : OwnC d H' ts raw cells ids :=
 ownL_frame (fun t x a h hi => own_frame d t x a h fun i hi' => hs i (hi i hi')) h
theorem OwnC.lt {d : Nat} {H : Heap} {ts : List Nat} {raw cells : List AV} {ids : List Nat} (h : OwnC d H ts raw cells ids) : ∀ i ∈ ids, i < H.length := ownL_lt (fun t x a h => own_lt d t x a h) h
theorem OwnC.grow {d : Nat} {H : Heap} {ts : List Nat} {raw cells : List AV} {ids : List Nat} (h : OwnC d H ts raw cells ids) (X : List Blk) : OwnC d (H ++ X) ts raw cells ids :=
 h.frame fun i hi => List.getElem?_append_left (h.lt i hi)
theorem OwnC.append {d : Nat} {H : Heap} {ts us : List Nat} {raw raw' cells cells' : List AV} {ids ids' : List Nat} (h : OwnC d H ts raw cells ids) (h' : OwnC d H us raw' cells' ids') : OwnC d H (ts ++ us) (raw ++ raw') (cells ++ cells') (ids ++ ids') := ownL_append h h'
theorem OwnC.len {d : Nat} {H : Heap} {ts : List Nat} {raw cells : List AV} {ids : List Nat} (h : OwnC d H ts raw cells ids) : ts.length = raw.length ∧ cells.length = raw.length := ownL_len h
def OwnS (d : Nat) (H : Heap) (w : Nat) (cty : List Nat) (x : AV) (k : Nat) (cells : List AV) : Prop :=
 (x = .nl ∧ k = 0 ∧ cells = []) ∨ ∃ id raw ids, x = .sl id 0 k w ∧ H[id]? = some ⟨raw, true, true⟩ ∧ raw.length = k * w ∧ OwnC d H (List.replicate k cty).flatten raw cells ids ∧ (id :: ids).Nodup
theorem OwnS.nil (d : Nat) (H : Heap) (w : Nat) (cty : List Nat) : OwnS d H w cty .nl 0 [] := .inl ⟨rfl, rfl, rfl⟩
theorem OwnS.grow {d : Nat} {H : Heap} {w : Nat} {cty : List Nat} {x : AV} {k : Nat} {cells : List AV} (h : OwnS d H w cty x k cells) (X : List Blk) : OwnS d (H ++ X) w cty x k cells := by
 rcases h with h | ⟨id, raw, ids, h1, h2, h3, h4, h5⟩
 ·exact .inl h
 ·exact .inr ⟨id, raw, ids, h1, by rw [List.getElem?_append_left (List.getElem?_eq_some_iff.1 h2).1]; exact h2, h3, h4.grow X, h5⟩
variable {β : Type} {n : Nat} {r : Option β}
theorem set_at (A : Heap) (b b' : Blk) (R : Heap) : (A ++ b :: R).set A.length b' = A ++ b' :: R := by
 rw [List.set_append_right _ _ (Nat.le_refl _), Nat.sub_self]
 rfl
theorem get_at (A : Heap) (b : Blk) (R : Heap) : (A ++ b :: R)[A.length]? = some b := by
 rw [List.getElem?_append_right (Nat.le_refl _), Nat.sub_self]
 rfl
theorem app_one {d : Nat} {H X : Heap} {w bytes : Nat} {cty : List Nat} {x : AV} {k : Nat} {cells er ec : List AV} {eids : List Nat} {K : AV → Heap → Option β} (hx : OwnS d H w cty x k cells) (hw : er.length = w) (hl : er.all isLeaf = true)
  (he : OwnC d (H ++ X) cty er ec eids) (hn : eids.Nodup) (hge : ∀ i ∈ eids, H.length ≤ i) (hb : (k + 1) * bytes ≤ 140737488355328)
  (h : ∀ x' H', OwnS d H' w cty x' (k + 1) (cells ++ ec) → K x' H' = r) :
  pNewSl 1 w er true (H ++ X) (fun y G => pApp w bytes x y G K) = r := by
 have hy : ∀ G : Heap, content (G ++ [⟨er, true, true⟩]) w (.sl G.length 0 1 w) = some er := by
  intro G
  simp only [content, if_true, Nat.one_mul, rdCells, get_at G _ [], Nat.zero_add, hw, Nat.le_refl, List.drop_zero]
  rw [← hw, List.take_length]
 have hell : (H ++ X).length ∉ eids := fun hm => Nat.lt_irrefl _ (he.lt _ hm)
 rcases hx with ⟨rfl, rfl, rfl⟩ | ⟨id, raw, ids, rfl, h2, h3, h4, h5⟩
 ·simp only [pNewSl, pApp, lenA, Option.bind_some, hy]
  rw [show content (H ++ X ++ [⟨er, true, true⟩]) w .nl = some [] from rfl]
  simp only [Option.bind_some, kill]
  rw [if_pos hb, if_pos hl]
  refine h _ _ (.inr ⟨_, er, eids, rfl, ?_, by simp [hw], ?_, ?_⟩)
  ·rw [List.getElem?_append_right (Nat.le_refl _), Nat.sub_self]
   rfl
  ·simp only [Nat.zero_add, List.replicate_one, List.flatten_cons, List.flatten_nil, List.append_nil, List.nil_append]
   exact (he.grow _).grow _
  ·rw [List.nodup_cons]
   refine ⟨fun hm => ?_, hn⟩
   have := he.lt _ hm
   simp at this
   omega
 ·have hid : id < H.length := (List.getElem?_eq_some_iff.1 h2).1
  have hg : (H ++ X ++ [(⟨er, true, true⟩ : Blk)])[id]? = some ⟨raw, true, true⟩ := by
   rw [List.append_assoc, List.getElem?_append_left hid]
   exact h2
  have hcx : content (H ++ X ++ [⟨er, true, true⟩]) w (.sl id 0 k w) = some raw := by
   simp only [content, if_true, rdCells, hg, Nat.zero_add, h3, Nat.le_refl, List.drop_zero]
   rw [← h3, List.take_length]
  simp only [pNewSl, pApp, lenA, Option.bind_some, hy, hcx, kill, hg, if_true]
  rw [if_pos hb, if_pos hl]
  have hn5 := List.nodup_cons.1 h5
  have hne : ∀ i ∈ ids, i ≠ id := fun i hi e => hn5.1 (e ▸ hi)
  have hne2 : ∀ i ∈ eids, i ≠ id := fun i hi e => by
   have := hge i hi
   omega
  refine h _ _ (.inr ⟨_, raw ++ er, ids ++ eids, rfl, ?_, by simp [h3, hw, Nat.succ_mul], ?_, ?_⟩)
  ·rw [List.getElem?_append_right (Nat.le_refl _), Nat.sub_self]
   rfl
  ·have e : (List.replicate (k + 1) cty).flatten = (List.replicate k cty).flatten ++ cty := by
    rw [List.replicate_succ', List.flatten_append]
    simp
   rw [e]
   refine OwnC.append ?_ ?_
   ·refine OwnC.grow (OwnC.frame (H := H ++ X ++ [⟨er, true, true⟩]) ((h4.grow X).grow _) fun i hi => ?_) _
    rw [List.getElem?_set_ne (fun e => hne i hi e.symm)]
   ·refine OwnC.grow (OwnC.frame (H := H ++ X ++ [⟨er, true, true⟩]) (he.grow _) fun i hi => ?_) _
    rw [List.getElem?_set_ne (fun e => hne2 i hi e.symm)]
  ·rw [List.nodup_cons]
   refine ⟨fun hm => ?_, ?_⟩
   ·rcases List.mem_append.1 hm with hm | hm
    ·have := h4.lt _ hm
     simp at this
     omega
    ·have := he.lt _ hm
     simp at this
     omega
   ·rw [List.nodup_append]
    refine ⟨hn5.2, hn, fun a ha b hb e => ?_⟩
    have h1 := h4.lt a ha
    have h2 := hge b hb
    omega
theorem own_new {d : Nat} {H : Heap} {ts : List Nat} {cs : List AV} (h : okLW (okW ti0 E0.tp d) ts cs) : OwnC d (H ++ (instL ti0 E0.tp H.length ts cs).2) ts (instL ti0 E0.tp H.length ts cs).1 cs (List.range' H.length (instL ti0 E0.tp H.length ts cs).2.length) :=
 own_instL (fun ty t N h h' _ => own_inst d ty t N h h') ts cs H.length h (Lies_end _ _) (instL_live _ _ _)
theorem own_res {d : Nat} {H : Heap} {w tyS k : Nat} {cty : List Nat} {x : AV} {cells : List AV} (hty : ∃ i j, ti0 tyS = some i ∧ ti0 i.elem = some j ∧ j.size = w ∧ j.cty = cty) (h : OwnS d H w cty x k cells) : ∃ ids, ownT ti0 E0.tp H (d + 1) tyS x = some (.ro k cells, ids) ∧ ids.Nodup := by
 rcases h with ⟨rfl, rfl, rfl⟩ | ⟨id, raw, ids, rfl, h2, h3, h4, h5⟩
 ·exact ⟨[], rfl, List.nodup_nil⟩
 ·obtain ⟨i, j, e1, e2, rfl, rfl⟩ := hty
  refine ⟨id :: ids, ?_, h5⟩
  rw [ownT_sl]
  have ha : isApp H id = true := by simp only [isApp, h2]
  have hr : rdCells H id 0 (k * j.size) = some raw := by
   simp only [rdCells, h2, if_true, Nat.zero_add, h3, Nat.le_refl, List.drop_zero]
   rw [← h3, List.take_length]
  have h4' : ownL (ownT ti0 E0.tp H d) (List.replicate k j.cty).flatten raw = some (cells, ids) := h4
  simp only [e1, e2, Option.bind_some, if_true, ha, hr, h4']
end Go.Proofs.YtdameggfgnpehaaGreatDoor.Abs
set_option linter.unusedVariables false
set_option linter.unusedSimpArgs false
set_option maxRecDepth 100000
namespace Go.Proofs.YtdameggfgnpehaaGreatDoor.Abs
open Go
def vTopicOk (s : ByteArray) : Bool := vTextOk s && !(s.toList == (⟨#[]⟩ : ByteArray).toList) && !(vHas s 43) && !(vHas s 35) && decide (((vLevels s).length : Int) ≤ 6)
section
variable {β : Type} {n : Nat} {H : Heap} {r : Option β}
theorem lw_list {ty f len : Nat} {args vs cells : List AV} {K : AV → Heap → Option β} (hh : plainF f = false) (hv : args.mapM (viewV H 8) = some vs) (ht : tree E0 n ty f vs = some (.ro len cells)) (h : ∀ N X sz, K (.sl N 0 len sz) (H ++ X) = r) : (PR n β).call ty (.fn f [] []) args H (fun x H => K x H) = r := by
 rw [PR_call hh hv ht]
 exact h _ _ _
theorem w_endS {b b' : Bool} (h : b = b') : some (AV.sc (.bool b)) = some (AV.sc (.bool b')) := by rw [h]
theorem w_iadrE {α : Type} {w : Nat} {enc : α → List AV} {l pre t : List α} {x : α} {K : AV → Option β} (hw : ∀ x, (enc x).length = w) (h0 : 0 < w) (hl : l = pre ++ x :: t) (h : K (.rp (enc x ++ (t.map enc).flatten)) = r) : pIadr w (rowsC enc l) (.sc (.int .i64 (pre.length : Int))) (fun t => K t) = r := by
 subst hl
 exact (el_ro (β := β) hw h0 pre x t (fun t => K t)).trans h
theorem w_iadrP {α : Type} {w : Nat} {enc : α → List AV} {l pre t : List α} {K : AV → Option β} (hw : ∀ x, (enc x).length = w) (h0 : 0 < w) (hp : decide ((pre.length : Int) > 0) = true) (hl : l = pre ++ t) (hlen : l.length ≤ 1048576) (h : ∀ y, pre.getLast? = some y → K (.rp (enc y ++ (t.map enc).flatten)) = r) : pIadr w (rowsC enc l) (.sc (.int .i64 (IntKind.i64.wrap ((pre.length : Int) - 1)))) (fun t => K t) = r := by
 cases hg : pre.getLast? with
 | none =>
  rw [List.getLast?_eq_none_iff] at hg
  subst hg
  simp at hp
 | some y =>
  obtain ⟨p, rfl⟩ := List.getLast?_eq_some_iff.1 hg
  have hlp : p.length < 1048576 := by
   rw [hl] at hlen
   simp at hlen
   omega
  have e : IntKind.i64.wrap (((p ++ [y]).length : Int) - 1) = (p.length : Int) := by
   rw [List.length_append, List.length_singleton, wrap64 _ (by omega) (by omega)]
   omega
  rw [e]
  exact w_iadrE hw h0 (hl.trans (by simp)) (h y hg)
theorem w_lenL {id off m w : Nat} {K : AV → Option β} (h : K (.sc (.int .i64 m)) = r) : pLen (.sl id off m w) (fun t => K t) = r := h
end
section has
variable (n : Nat) (k : AV → Heap → Option AV) (H : Heap)
theorem has_loop (s : ByteArray) (b : UInt8) (hs : s.size ≤ 1048576) : ∀ (r pre : List UInt8) (m : Nat), s.data.toList = pre ++ r → r.length < m →
  f190_l0 (PR n AV) n k m (.sc (.string s)) (.sc (.int .u8 b.toNat)) (.sc (.int .i64 pre.length)) H = k (.sc (.bool (r.any fun c => c == b))) H
 | [], pre, m + 1, hl, hm => by
  have h1 : s.size = pre.length := by
   have := congrArg List.length hl
   simpa using this
  rw [f190_l0]
  simp only [PR_lenS, PR_bin, PR_cond]
  rw [lenSc, lss_nat, h1, cond_b, if_neg (by simp)]
  rfl
 | c :: r, pre, m + 1, hl, hm => by
  have h1 : s.size = pre.length + r.length + 1 := by
   have := congrArg List.length hl
   simpa [Nat.add_assoc] using this
  rw [f190_l0]
  simp only [PR_lenS, PR_bin, PR_cond, PR_idx]
  rw [lenSc, lss_nat, cond_b, if_pos (by simp; omega), idx_s s pre.length c _ (by rw [hl]; simp)]
  have he : ∀ K : AV → Option AV, pBin .eql (.sc (.int .u8 (c.toNat : Int))) (.sc (.int .u8 (b.toNat : Int))) K = K (.sc (.bool (c == b))) := by
   intro K
   show K (.sc (.bool ((c.toNat : Int) == (b.toNat : Int)))) = _
   congr 3
   rw [Bool.eq_iff_iff, beq_iff_eq, beq_iff_eq, Int.ofNat_inj, UInt8.toNat_inj]
  rw [he, cond_b, List.any_cons]
  cases hcb : (c == b)
  ·rw [if_neg (by simp), inc_nat _ _ (by omega)]
   have ih := has_loop s b hs r (pre ++ [c]) m (by rw [hl]; simp) (by simpa using hm)
   rw [List.length_append, List.length_singleton] at ih
   rw [ih]
   rfl
  ·rw [if_pos rfl]
   rfl
end has
theorem hasF (n : Nat) (hn : 1048576 < n) (ty : Nat) (s : ByteArray) (b : UInt8) (hs : s.size ≤ 1048576) : tree E0 (n + 1) ty 190 [.sc (.string s), .sc (.int .u8 b.toNat)] = some (.sc (.bool (vHas s b))) := by
 rw [tree_def, f190_eq, f190]
 have key := has_loop n (fun x H => ownTree ti0 E0.tp ty H x) [] s b hs s.data.toList [] n rfl (by simp; omega)
 simp only [List.length_nil, Int.natCast_zero] at key
 rw [key]
 rfl
theorem has43 (n : Nat) (hn : 1048576 < n) (ty : Nat) (s : ByteArray) (hs : s.size ≤ 1048576) : tree E0 (n + 1) ty 190 [.sc (.string s), .sc (.int .u8 43)] = some (.sc (.bool (vHas s 43))) := hasF n hn ty s 43 hs
theorem has35 (n : Nat) (hn : 1048576 < n) (ty : Nat) (s : ByteArray) (hs : s.size ≤ 1048576) : tree E0 (n + 1) ty 190 [.sc (.string s), .sc (.int .u8 35)] = some (.sc (.bool (vHas s 35))) := hasF n hn ty s 35 hs
theorem strs_ty : ∃ i j, ti0 73 = some i ∧ ti0 i.elem = some j ∧ j.size = 1 ∧ j.cty = [i.elem] := ⟨_, _, rfl, rfl, rfl, rfl⟩
def strC (l : List UInt8) : AV := .sc (.string (ofL l))
theorem ofL_extract (s : ByteArray) (P cur r : List UInt8) (h : s.data.toList = P ++ (cur ++ r)) : s.extract P.length (P.length + cur.length) = ofL cur := by
 have : (s.extract P.length (P.length + cur.length)).data.toList = cur := by
  rw [ByteArray.data_extract, Array.toList_extract, List.extract, h]
  rw [List.drop_append_of_le_length (Nat.le_refl _), List.drop_length, List.nil_append, Nat.add_sub_cancel_left, List.take_append_of_le_length (Nat.le_refl _), List.take_length]
 rw [← ofL_data (s.extract _ _), this]
theorem lev_piece {H : Heap} {x : AV} {cnt : Nat} {cells : List AV} {K : AV → Heap → Option AV} {r : Option AV} (s : ByteArray) (P cur rest : List UInt8) (hl : s.data.toList = P ++ (cur ++ rest)) (hs : s.size ≤ 1048576) (hx : OwnS 7 H 1 [9] x cnt cells) (hc : cnt ≤ 1048577)
  (h : ∀ x' H', OwnS 7 H' 1 [9] x' (cnt + 1) (cells ++ [strC cur]) → K x' H' = r) :
  (pSliceS (.sc (.string s)) (some (.sc (.int .i64 P.length))) (some (.sc (.int .i64 ((P.length + cur.length : Nat) : Int)))) fun t27 => (fillA [(.sc (.string ⟨#[]⟩))] [(0, 1, t27)]).bind fun ct28 => pNewSl 1 1 ct28 true H fun t28 H => pApp 1 16 x t28 H K) = r := by
 have hsz : P.length + cur.length ≤ s.size := by
  have := congrArg List.length hl
  simp at this
  omega
 simp only [pSliceS, asS, bound, asI, Option.bind_some]
 rw [if_pos (by omega)]
 simp only [Int.toNat_natCast]
 rw [ofL_extract s P cur rest hl]
 have hf : fillA [(.sc (.string ⟨#[]⟩))] [(0, 1, .sc (.string (ofL cur)))] = some [.sc (.string (ofL cur))] := rfl
 rw [hf, Option.bind_some]
 have key := app_one (H := H) (X := []) (bytes := 16) (er := [.sc (.string (ofL cur))]) (ec := [strC cur]) (eids := []) (K := K) (r := r) hx rfl rfl rfl List.nodup_nil (fun i hi => by cases hi) (by omega) h
 rw [List.append_nil] at key
 exact key
theorem lev_loop (n : Nat) (s : ByteArray) (hs : s.size ≤ 1048576) : ∀ (r P cur : List UInt8) (m : Nat) (x : AV) (H : Heap) (cnt : Nat) (cells : List AV), s.data.toList = P ++ (cur ++ r) → r.length + 1 < m → OwnS 7 H 1 [9] x cnt cells → cnt ≤ P.length →
  f191_l0 (PR n AV) n (fun x H => ownTree ti0 E0.tp 73 H x) m (.sc (.string s)) x (.sc (.int .i64 P.length)) (.sc (.int .i64 ((P.length + cur.length : Nat) : Int))) H = some (.ro (cnt + (lvL cur r).length) (cells ++ (lvL cur r).map strC))
 | [], P, cur, m + 2, x, H, cnt, cells, hl, hm, hx, hc => by
  have h1 : s.size = P.length + cur.length := by
   have := congrArg List.length hl
   simpa using this
  rw [f191_l0]
  simp only [PR_lenS, PR_bin, PR_cond, PR_guard, PR_pick, PR_sliceS, PR_fill, PR_newSl, PR_app, PR_idx]
  rw [lenSc, leq64, cond_b, if_pos (by simp; omega), lenSc, eql64]
  have he : (((P.length + cur.length : Nat) : Int) == (s.size : Int)) = true := by simp; omega
  refine w_hF he ?_
  refine w_hF he ?_
  refine w_hF he ?_
  refine w_hF he ?_
  refine w_pT he ?_
  refine w_cT rfl ?_
  refine lev_piece s P cur [] hl hs hx (by omega) fun x' H' hx' => ?_
  rw [inc_nat _ _ (by omega), inc_nat _ _ (by omega)]
  rw [f191_l0]
  simp only [PR_lenS, PR_bin, PR_cond]
  rw [lenSc, leq64, cond_b, if_neg (by simp; omega)]
  obtain ⟨i, j, e1, e2, e3, e4⟩ := strs_ty
  obtain ⟨ids, ho, hno⟩ := own_res (d := 7) (tyS := 73) (w := 1) (cty := [9]) ⟨_, _, rfl, rfl, rfl, rfl⟩ hx'
  rw [ownTree, ho, Option.bind_some, if_pos hno]
  rfl
 | c :: r, P, cur, m + 1, x, H, cnt, cells, hl, hm, hx, hc => by
  have h1 : s.size = P.length + cur.length + r.length + 1 := by
   have := congrArg List.length hl
   simp at this
   omega
  have hidx : s.data.toList[P.length + cur.length]? = some c := by
   rw [hl, ← List.append_assoc, ← List.length_append, List.getElem?_append_right (Nat.le_refl _), Nat.sub_self]
   rfl
  rw [f191_l0]
  simp only [PR_lenS, PR_bin, PR_cond, PR_guard, PR_pick, PR_sliceS, PR_fill, PR_newSl, PR_app, PR_idx]
  rw [lenSc, leq64, cond_b, if_pos (by simp; omega), lenSc, eql64]
  have he : (((P.length + cur.length : Nat) : Int) == (s.size : Int)) = false := by simp; omega
  refine w_hT he ?_
  refine w_hT he ?_
  refine w_hT he ?_
  rw [idx_s s (P.length + cur.length) c _ hidx]
  refine w_hT he ?_
  refine w_bin (v := .sc (.bool (c == 47))) (fun K => ?_) ?_
  ·show K (.sc (.bool ((c.toNat : Int) == (47 : Int)))) = _
   congr 3
   rw [Bool.eq_iff_iff, beq_iff_eq, beq_iff_eq, show (47 : Int) = (((47 : UInt8).toNat : Nat) : Int) from rfl, Int.ofNat_inj, UInt8.toNat_inj]
  refine w_pF he ?_
  rw [lvL]
  by_cases h47 : c = 47
  ·refine w_cT (by simp [h47]) ?_
   refine lev_piece s P cur (c :: r) hl hs hx (by omega) fun x' H' hx' => ?_
   rw [inc_nat _ _ (by omega), inc_nat _ _ (by omega), if_pos h47]
   have ih := lev_loop n s hs r (P ++ cur ++ [c]) [] m x' H' (cnt + 1) (cells ++ [strC cur]) (by rw [hl]; simp) (by simpa using hm) hx' (by simp; omega)
   simp only [List.length_append, List.length_nil, List.length_singleton, Nat.add_zero] at ih
   rw [ih]
   simp [Nat.add_assoc, Nat.add_comm]
  ·refine w_cF (by simpa using h47) ?_
   rw [inc_nat _ _ (by omega), if_neg h47]
   have ih := lev_loop n s hs r P (cur ++ [c]) m x H cnt cells (by rw [hl]; simp) (by simpa using hm) hx hc
   rw [List.length_append, List.length_singleton, ← Nat.add_assoc] at ih
   exact ih
theorem specLevelsF (n : Nat) (hn : 1048577 < n) (s : ByteArray) (hs : s.size ≤ 1048576) : tree E0 (n + 1) 73 191 [.sc (.string s)] = some (.ro (vLevels s).length ((vLevels s).map fun x => .sc (.string x))) := by
 rw [tree_def, f191_eq, f191]
 have key := lev_loop n s hs s.data.toList [] [] n .nl [] 0 [] rfl (by simp; omega) (OwnS.nil _ _ _ _) (by simp)
 simp only [List.length_nil, Int.natCast_zero, Nat.zero_add, List.nil_append] at key
 rw [key, vLevels, List.length_map, List.map_map]
 rfl
theorem implLevelsF (n : Nat) (s : ByteArray) (hs : s.size ≤ 1048576) : tree E0 (n + 1) 73 189 [.sc (.string s)] = some (.ro (vLevels s).length ((vLevels s).map fun x => .sc (.string x))) := by
 rw [tree_def, f189_eq, f189]
 have hg : ext202 73 [.sc (.string s), .sc (.string ⟨#[47]⟩)] = some (.ro (vLevels s).length ((vLevels s).map fun x => .sc (.string x))) := by
  unfold ext202
  exact if_pos ⟨rfl, rfl, by omega⟩
 rw [PR_ext (g := ext202) rfl (vcons (Vw_sc _ _) (vcons (Vw_sc _ _) vnil)) hg]
 refine own_ret [] _ _ ?_
 refine ⟨_, _, rfl, rfl, by simp, ?_⟩
 have := okLW_rows (f := okW ti0 E0.tp 7) (cty := [9]) (enc := fun x : ByteArray => [.sc (.string x)]) (vLevels s) (fun x _ => ⟨trivial, trivial⟩)
 rw [flat_one] at this
 exact this
theorem containsF (ty : Nat) (s : ByteArray) (hs : s.size ≤ 1048576) : ext188 ty [.sc (.string s), .sc (.string ⟨#[43, 35]⟩)] = some (.sc (.bool (vPH s))) := by
 unfold ext188
 exact if_pos ⟨rfl, by omega⟩
end Go.Proofs.YtdameggfgnpehaaGreatDoor.Abs
set_option linter.unusedVariables false
set_option linter.unusedSimpArgs false
set_option maxRecDepth 100000
namespace Go.Proofs.YtdameggfgnpehaaGreatDoor.Abs
open Go
theorem okS_of {s : ByteArray} (h : s.size ≤ 1048576) : okS s := Nat.le_trans h (by decide)
theorem specTopicF (n : Nat) (hn : 1048576 < n) (ty : Nat) (s : ByteArray) (hs : s.size ≤ 1048576) : tree E0 (n + 5) ty 173 [.sc (.string s)] = some (.sc (.bool (vTopicOk s))) := by
 rw [tree_def, f173_eq, f173]
 try simp only [PR_box, PR_new, PR_fadr, PR_load, PR_store, PR_bin, PR_binB, PR_binA, PR_un, PR_cond, PR_guard, PR_pick, PR_len, PR_lenS, PR_iadr, PR_idx, PR_slice, PR_sliceS, PR_newSl, PR_fill, PR_make, PR_app, PR_cvI, PR_cvBS]
 refine lw_sc rfl (vcons (Vw_sc _ _) vnil) (specTextF (n + 0) (by omega) _ s) ?_
 apply w_merge ((vTextOk s) && (!(s.toList == (⟨#[]⟩ : ByteArray).toList)))
 ·intro b1 q1
  refine w_split ((vTextOk s)) (fun h1 => ?_) (fun h1 => ?_)
  ·refine w_gT h1 ?_
   refine w_gT h1 ?_
   refine w_bin (v := .sc (.bool (!(s.toList == (⟨#[]⟩ : ByteArray).toList)))) (fun k => rfl) ?_
   refine w_pTb h1 (mAT q1 h1) ?_
   exact rfl
  ·refine w_gF h1 ?_
   refine w_gF h1 ?_
   refine w_pFb h1 (mAF q1 h1) ?_
   exact rfl
 intro b1 q1
 apply w_merge (b1 && (!(vHas s 43)))
 ·intro b2 q2
  refine w_split (b1) (fun h2 => ?_) (fun h2 => ?_)
  ·refine w_gT h2 ?_
   refine w_gT h2 ?_
   refine lw_sc rfl (vcons (Vw_sc _ _) (vcons (Vw_sc _ _) vnil)) (has43 (n + 3) (by omega) _ s hs) ?_
   refine w_gT h2 ?_
   refine w_not ?_
   refine w_pTb h2 (mAT q2 h2) ?_
   exact rfl
  ·refine w_gF h2 ?_
   refine w_gF h2 ?_
   refine w_gF h2 ?_
   refine w_pFb h2 (mAF q2 h2) ?_
   exact rfl
 intro b2 q2
 apply w_merge (b2 && (!(vHas s 35)))
 ·intro b3 q3
  refine w_split (b2) (fun h3 => ?_) (fun h3 => ?_)
  ·refine w_gT h3 ?_
   refine w_gT h3 ?_
   refine lw_sc rfl (vcons (Vw_sc _ _) (vcons (Vw_sc _ _) vnil)) (has35 (n + 3) (by omega) _ s hs) ?_
   refine w_gT h3 ?_
   refine w_not ?_
   refine w_pTb h3 (mAT q3 h3) ?_
   exact rfl
  ·refine w_gF h3 ?_
   refine w_gF h3 ?_
   refine w_gF h3 ?_
   refine w_pFb h3 (mAF q3 h3) ?_
   exact rfl
 intro b3 q3
 apply w_merge (b3 && (decide (((vLevels s).length : Int) ≤ 6)))
 ·intro b4 q4
  refine w_split (b3) (fun h4 => ?_) (fun h4 => ?_)
  ·refine w_gT h4 ?_
   refine w_gT h4 ?_
   refine lw_list rfl (vcons (Vw_sc _ _) vnil) (specLevelsF (n + 3) (by omega) s hs) fun N5 X5 z5 => ?_
   refine w_gT h4 ?_
   refine w_lenL ?_
   refine w_gT h4 ?_
   refine w_bin (v := .sc (.bool (decide (((vLevels s).length : Int) ≤ 6)))) (fun k => rfl) ?_
   refine w_pTb h4 (mAT q4 h4) ?_
   exact rfl
  ·refine w_gF h4 ?_
   refine w_gF h4 ?_
   refine w_gF h4 ?_
   refine w_gF h4 ?_
   refine w_pFb h4 (mAF q4 h4) ?_
   exact rfl
 intro b4 q4
 exact w_endS (by subst_vars; unfold vTopicOk; first | rfl | (unfold vPH; cases vTextOk s <;> cases vHas s 43 <;> cases vHas s 35 <;> simp))
theorem implTopicF (n : Nat) (hn : 1048576 < n) (ty : Nat) (s : ByteArray) (hs : s.size ≤ 1048576) : tree E0 (n + 5) ty 169 [.sc (.string s)] = some (.sc (.bool (vTopicOk s))) := by
 rw [tree_def, f169_eq, f169]
 try simp only [PR_box, PR_new, PR_fadr, PR_load, PR_store, PR_bin, PR_binB, PR_binA, PR_un, PR_cond, PR_guard, PR_pick, PR_len, PR_lenS, PR_iadr, PR_idx, PR_slice, PR_sliceS, PR_newSl, PR_fill, PR_make, PR_app, PR_cvI, PR_cvBS]
 refine lw_ext rfl (vcons (Vw_sc _ _) vnil) (implTextF _ s (okS_of hs)) ?_
 apply w_merge ((vTextOk s) && (!(s.toList == (⟨#[]⟩ : ByteArray).toList)))
 ·intro b1 q1
  refine w_split ((vTextOk s)) (fun h1 => ?_) (fun h1 => ?_)
  ·refine w_gT h1 ?_
   refine w_gT h1 ?_
   refine w_bin (v := .sc (.bool (!(s.toList == (⟨#[]⟩ : ByteArray).toList)))) (fun k => rfl) ?_
   refine w_pTb h1 (mAT q1 h1) ?_
   exact rfl
  ·refine w_gF h1 ?_
   refine w_gF h1 ?_
   refine w_pFb h1 (mAF q1 h1) ?_
   exact rfl
 intro b1 q1
 apply w_merge (b1 && (!(vPH s)))
 ·intro b2 q2
  refine w_split (b1) (fun h2 => ?_) (fun h2 => ?_)
  ·refine w_gT h2 ?_
   refine w_gT h2 ?_
   refine lw_ext rfl (vcons (Vw_sc _ _) (vcons (Vw_sc _ _) vnil)) (containsF _ s hs) ?_
   refine w_gT h2 ?_
   refine w_not ?_
   refine w_pTb h2 (mAT q2 h2) ?_
   exact rfl
  ·refine w_gF h2 ?_
   refine w_gF h2 ?_
   refine w_gF h2 ?_
   refine w_pFb h2 (mAF q2 h2) ?_
   exact rfl
 intro b2 q2
 apply w_merge (b2 && (decide (((vLevels s).length : Int) ≤ 6)))
 ·intro b3 q3
  refine w_split (b2) (fun h3 => ?_) (fun h3 => ?_)
  ·refine w_gT h3 ?_
   refine w_gT h3 ?_
   refine lw_list rfl (vcons (Vw_sc _ _) vnil) (implLevelsF (n + 3) s hs) fun N4 X4 z4 => ?_
   refine w_gT h3 ?_
   refine w_lenL ?_
   refine w_gT h3 ?_
   refine w_bin (v := .sc (.bool (decide (((vLevels s).length : Int) ≤ 6)))) (fun k => rfl) ?_
   refine w_pTb h3 (mAT q3 h3) ?_
   exact rfl
  ·refine w_gF h3 ?_
   refine w_gF h3 ?_
   refine w_gF h3 ?_
   refine w_gF h3 ?_
   refine w_pFb h3 (mAF q3 h3) ?_
   exact rfl
 intro b3 q3
 exact w_endS (by subst_vars; unfold vTopicOk; first | rfl | (unfold vPH; cases vTextOk s <;> cases vHas s 43 <;> cases vHas s 35 <;> simp))
def vMsgOk (m : MsgV) : Bool := vTopicOk m.fTopic && decide ((m.fBody.size : Int) ≤ 40) && vIn m.fQos 0 2
theorem isQosF (n : Nat) (ty : Nat) (x : Int) : tree E0 (n + 2) ty 170 [.sc (.int .i64 x)] = some (.sc (.bool (vIn x 0 2))) := by
 rw [tree_def, f170_eq, f170]
 try simp only [PR_box, PR_new, PR_fadr, PR_load, PR_store, PR_bin, PR_binB, PR_binA, PR_un, PR_cond, PR_guard, PR_pick, PR_len, PR_lenS, PR_iadr, PR_idx, PR_slice, PR_sliceS, PR_newSl, PR_fill, PR_make, PR_app, PR_cvI, PR_cvBS]
 refine lw_sc rfl (vcons (Vw_sc _ _) (vcons (Vw_sc _ _) (vcons (Vw_sc _ _) vnil))) (withinF (n + 0) _ x 0 2) ?_
 exact w_endB (by first | (simp_all [vIn, vTopicOk, vMsgOk]; done) | (rw [Bool.eq_iff_iff]; simp [vIn, vTopicOk, vMsgOk] at *; omega))
theorem specMsgF (n : Nat) (hn : 1048576 < n) (ty : Nat) (m : MsgV) (hs : m.fTopic.size ≤ 1048576) : tree E0 (n + 6) ty 142 [.agg (encMsg m)] = some (.sc (.bool (vMsgOk m))) := by
 rw [tree_def, f142_eq, f142]
 try simp only [PR_box, PR_new, PR_fadr, PR_load, PR_store, PR_bin, PR_binB, PR_binA, PR_un, PR_cond, PR_guard, PR_pick, PR_len, PR_lenS, PR_iadr, PR_idx, PR_slice, PR_sliceS, PR_newSl, PR_fill, PR_make, PR_app, PR_cvI, PR_cvBS]
 refine w_box (flMsg _) fun iB1 eB1 B1 => ?_
 refine w_fadr ?_
 refine w_ld (c := .sc (.string m.fTopic)) B1 (Nat.le_of_ble_eq_true rfl) rfl ?_
 refine lw_sc rfl (vcons (Vw_sc _ _) vnil) (specTopicF (n + 0) (by omega) _ m.fTopic (by assumption)) ?_
 apply w_merge ((vTopicOk m.fTopic) && (decide ((m.fBody.size : Int) ≤ 40)))
 ·intro b2 q2
  refine w_split ((vTopicOk m.fTopic)) (fun h2 => ?_) (fun h2 => ?_)
  ·refine w_gT h2 ?_
   refine w_fadr ?_
   refine w_gT h2 ?_
   refine w_ld (c := bytesC m.fBody) B1 (Nat.le_of_ble_eq_true rfl) rfl ?_
   refine w_gT h2 ?_
   refine w_len ?_
   refine w_gT h2 ?_
   refine w_bin (v := .sc (.bool (decide ((m.fBody.size : Int) ≤ 40)))) (fun k => rfl) ?_
   refine w_pTb h2 (mAT q2 h2) ?_
   exact rfl
  ·refine w_gF h2 ?_
   refine w_gF h2 ?_
   refine w_gF h2 ?_
   refine w_gF h2 ?_
   refine w_pFb h2 (mAF q2 h2) ?_
   exact rfl
 intro b2 q2
 apply w_merge (b2 && (vIn m.fQos 0 2))
 ·intro b3 q3
  refine w_split (b2) (fun h3 => ?_) (fun h3 => ?_)
  ·refine w_gT h3 ?_
   refine w_fadr ?_
   refine w_gT h3 ?_
   refine w_ld (c := .sc (.int .i64 m.fQos)) B1 (Nat.le_of_ble_eq_true rfl) rfl ?_
   refine w_gT h3 ?_
   refine lw_sc rfl (vcons (Vw_sc _ _) (vcons (Vw_sc _ _) (vcons (Vw_sc _ _) vnil))) (l1InF (n + 4) _ m.fQos 0 2) ?_
   refine w_pTb h3 (mAT q3 h3) ?_
   exact rfl
  ·refine w_gF h3 ?_
   refine w_gF h3 ?_
   refine w_gF h3 ?_
   refine w_pFb h3 (mAF q3 h3) ?_
   exact rfl
 intro b3 q3
 exact w_endB (by subst_vars; first | rfl | (simp only [vMsgOk]; done) | (simp only [vMsgOk]; ac_rfl))
theorem implMsgF (n : Nat) (hn : 1048576 < n) (ty : Nat) (m : MsgV) (hs : m.fTopic.size ≤ 1048576) : tree E0 (n + 6) ty 138 [.agg (encMsg m)] = some (.sc (.bool (vMsgOk m))) := by
 rw [tree_def, f138_eq, f138]
 try simp only [PR_box, PR_new, PR_fadr, PR_load, PR_store, PR_bin, PR_binB, PR_binA, PR_un, PR_cond, PR_guard, PR_pick, PR_len, PR_lenS, PR_iadr, PR_idx, PR_slice, PR_sliceS, PR_newSl, PR_fill, PR_make, PR_app, PR_cvI, PR_cvBS]
 refine w_box (flMsg _) fun iB1 eB1 B1 => ?_
 refine w_fadr ?_
 refine w_ld (c := .sc (.string m.fTopic)) B1 (Nat.le_of_ble_eq_true rfl) rfl ?_
 refine lw_sc rfl (vcons (Vw_sc _ _) vnil) (implTopicF (n + 0) (by omega) _ m.fTopic (by assumption)) ?_
 apply w_merge ((vTopicOk m.fTopic) && (decide ((m.fBody.size : Int) ≤ 40)))
 ·intro b2 q2
  refine w_split ((vTopicOk m.fTopic)) (fun h2 => ?_) (fun h2 => ?_)
  ·refine w_gT h2 ?_
   refine w_fadr ?_
   refine w_gT h2 ?_
   refine w_ld (c := bytesC m.fBody) B1 (Nat.le_of_ble_eq_true rfl) rfl ?_
   refine w_gT h2 ?_
   refine w_len ?_
   refine w_gT h2 ?_
   refine w_bin (v := .sc (.bool (decide ((m.fBody.size : Int) ≤ 40)))) (fun k => rfl) ?_
   refine w_pTb h2 (mAT q2 h2) ?_
   exact rfl
  ·refine w_gF h2 ?_
   refine w_gF h2 ?_
   refine w_gF h2 ?_
   refine w_gF h2 ?_
   refine w_pFb h2 (mAF q2 h2) ?_
   exact rfl
 intro b2 q2
 apply w_merge (b2 && (vIn m.fQos 0 2))
 ·intro b3 q3
  refine w_split (b2) (fun h3 => ?_) (fun h3 => ?_)
  ·refine w_gT h3 ?_
   refine w_fadr ?_
   refine w_gT h3 ?_
   refine w_ld (c := .sc (.int .i64 m.fQos)) B1 (Nat.le_of_ble_eq_true rfl) rfl ?_
   refine w_gT h3 ?_
   refine lw_sc rfl (vcons (Vw_sc _ _) vnil) (isQosF (n + 3) _ m.fQos) ?_
   refine w_pTb h3 (mAT q3 h3) ?_
   exact rfl
  ·refine w_gF h3 ?_
   refine w_gF h3 ?_
   refine w_gF h3 ?_
   refine w_pFb h3 (mAF q3 h3) ?_
   exact rfl
 intro b3 q3
 exact w_endB (by subst_vars; first | rfl | (simp only [vMsgOk]; done) | (simp only [vMsgOk]; ac_rfl))
def vQueueOk (l : List MsgV) : Bool := l.all vMsgOk && decide ((l.length : Int) ≤ 6)
theorem all_go {α : Type} (p : α → Bool) (e : Bool) (go : List α → List α → Bool) (h0 : ∀ pre, go pre [] = e) (h1 : ∀ pre x r, go pre (x :: r) = (p x && go (pre ++ [x]) r)) : ∀ (r pre : List α), go pre r = (r.all p && e)
 | [], pre => by rw [h0]; simp
 | x :: r, pre => by rw [h1, all_go p e go h0 h1 r, List.all_cons, Bool.and_assoc]
def goQs (l : List MsgV) : List MsgV → List MsgV → Bool
 | pre, [] => decide ((l.length : Int) ≤ 6)
 | pre, x :: r => vMsgOk x && goQs l (pre ++ [x]) r
theorem specQ_loop (n : Nat) (hn : 1048576 < n) (ty : Nat) (l : List MsgV) (hlen : l.length ≤ 1048576) (hsl : ∀ x ∈ l, x.fTopic.size ≤ 1048576) : ∀ (r pre : List MsgV) (m : Nat) (H : Heap), l = pre ++ r → r.length < m → f144_l0 (PR (n + 6) AV) (n + 6) (fun x H => ownTree ti0 E0.tp ty H x) m (rowsC encMsg l) (.sc (.int .i64 pre.length)) H = some (.sc (.bool (goQs l pre r)))
 | [], pre, m + 1, H, hl, hm => by
  have hlt : decide ((pre.length : Int) < (l.length : Int)) = false := by
   rw [hl]
   simp
  show (PR (n + 6) AV).len _ _ = _
  simp only [PR_box, PR_new, PR_fadr, PR_load, PR_store, PR_bin, PR_binB, PR_binA, PR_un, PR_cond, PR_guard, PR_pick, PR_len, PR_lenS, PR_iadr, PR_idx, PR_slice, PR_sliceS, PR_newSl, PR_fill, PR_make, PR_app, PR_cvI, PR_cvBS]
  refine w_len ?_
  refine w_bin (v := .sc (.bool (decide ((pre.length : Int) < (l.length : Int))))) (fun k => rfl) ?_
  refine w_cF hlt ?_
  refine w_len ?_
  refine w_bin (v := .sc (.bool (decide ((l.length : Int) ≤ 6)))) (fun k => rfl) ?_
  exact w_endB (by first | (subst_vars; simp only [goQs]; simp_all; done) | (subst_vars; unfold goQs; simp_all))
 | x :: r, pre, m + 1, H, hl, hm => by
  have hpl : pre.length < l.length := by rw [hl]; simp
  have hlt : decide ((pre.length : Int) < (l.length : Int)) = true := by simpa using hpl
  have hmem : x ∈ l := by rw [hl]; simp
  have hix : IntKind.i64.wrap ((pre.length : Int) + 1) = (((pre ++ [x]).length : Nat) : Int) := by
   rw [wrap64 _ (by omega) (by omega), List.length_append, List.length_singleton]
   rfl
  try have hs : x.fTopic.size ≤ 1048576 := hsl x (by assumption)
  show (PR (n + 6) AV).len _ _ = _
  simp only [PR_box, PR_new, PR_fadr, PR_load, PR_store, PR_bin, PR_binB, PR_binA, PR_un, PR_cond, PR_guard, PR_pick, PR_len, PR_lenS, PR_iadr, PR_idx, PR_slice, PR_sliceS, PR_newSl, PR_fill, PR_make, PR_app, PR_cvI, PR_cvBS]
  refine w_len ?_
  refine w_bin (v := .sc (.bool (decide ((pre.length : Int) < (l.length : Int))))) (fun k => rfl) ?_
  refine w_cT hlt ?_
  refine w_iadrE lenMsg (by decide) hl ?_
  refine w_ldA_rp (ds := encMsg x) (Nat.le_of_ble_eq_true rfl) rfl ?_
  refine lw_sc rfl (vcons (Vw_agg _ (flMsg _)) vnil) (specMsgF (n + 0) (by omega) _ x (by assumption)) ?_
  refine w_not ?_
  refine w_split ((vMsgOk x)) (fun h1 => ?_) (fun h1 => ?_)
  ·refine w_cF (nF h1) ?_
   refine w_bin (v := .sc (.int .i64 (IntKind.i64.wrap ((pre.length : Int) + 1)))) (fun k => rfl) ?_
   rw [hix]
   refine (specQ_loop n hn ty l hlen hsl r (pre ++ [x]) m _  (by rw [hl]; simp) (by simpa using hm)).trans (congrArg (fun b => some (AV.sc (Value.bool b))) ?_)
   first | (subst_vars; simp only [goQs]; simp_all; done) | (subst_vars; unfold goQs; simp_all)
  ·refine w_cT (nT h1) ?_
   exact w_endB (by first | (subst_vars; simp only [goQs]; simp_all; done) | (subst_vars; unfold goQs; simp_all))
def goQi : List MsgV → List MsgV → Bool
 | pre, [] => true
 | pre, x :: r => vMsgOk x && goQi (pre ++ [x]) r
theorem implQ_loop (n : Nat) (hn : 1048576 < n) (ty : Nat) (l : List MsgV) (hlen : l.length ≤ 1048576) (hsl : ∀ x ∈ l, x.fTopic.size ≤ 1048576) : ∀ (r pre : List MsgV) (m : Nat) (H : Heap), l = pre ++ r → r.length < m → f171_l0 (PR (n + 6) AV) (n + 6) (fun x H => ownTree ti0 E0.tp ty H x) m (rowsC encMsg l) (.sc (.int .i64 (l.length : Int))) (.sc (.int .i64 pre.length)) H = some (.sc (.bool (goQi pre r)))
 | [], pre, m + 1, H, hl, hm => by
  have hlt : decide ((pre.length : Int) < (l.length : Int)) = false := by
   rw [hl]
   simp
  show (PR (n + 6) AV).bin _ _ _ _ = _
  simp only [PR_box, PR_new, PR_fadr, PR_load, PR_store, PR_bin, PR_binB, PR_binA, PR_un, PR_cond, PR_guard, PR_pick, PR_len, PR_lenS, PR_iadr, PR_idx, PR_slice, PR_sliceS, PR_newSl, PR_fill, PR_make, PR_app, PR_cvI, PR_cvBS]
  refine w_bin (v := .sc (.bool (decide ((pre.length : Int) < (l.length : Int))))) (fun k => rfl) ?_
  refine w_cF hlt ?_
  exact w_endB (by first | (subst_vars; simp only [goQi]; simp_all; done) | (subst_vars; unfold goQi; simp_all))
 | x :: r, pre, m + 1, H, hl, hm => by
  have hpl : pre.length < l.length := by rw [hl]; simp
  have hlt : decide ((pre.length : Int) < (l.length : Int)) = true := by simpa using hpl
  have hmem : x ∈ l := by rw [hl]; simp
  have hix : IntKind.i64.wrap ((pre.length : Int) + 1) = (((pre ++ [x]).length : Nat) : Int) := by
   rw [wrap64 _ (by omega) (by omega), List.length_append, List.length_singleton]
   rfl
  try have hs : x.fTopic.size ≤ 1048576 := hsl x (by assumption)
  show (PR (n + 6) AV).bin _ _ _ _ = _
  simp only [PR_box, PR_new, PR_fadr, PR_load, PR_store, PR_bin, PR_binB, PR_binA, PR_un, PR_cond, PR_guard, PR_pick, PR_len, PR_lenS, PR_iadr, PR_idx, PR_slice, PR_sliceS, PR_newSl, PR_fill, PR_make, PR_app, PR_cvI, PR_cvBS]
  refine w_bin (v := .sc (.bool (decide ((pre.length : Int) < (l.length : Int))))) (fun k => rfl) ?_
  refine w_cT hlt ?_
  refine w_iadrE lenMsg (by decide) hl ?_
  refine w_ldA_rp (ds := encMsg x) (Nat.le_of_ble_eq_true rfl) rfl ?_
  refine lw_put rfl (lenMsg _) (fl_leaf (flMsg _)) fun iB1 B1 => ?_
  refine w_ldA (ds := encMsg x) B1 (Nat.le_of_ble_eq_true rfl) rfl ?_
  refine lw_sc rfl (vcons (Vw_agg _ (flMsg _)) vnil) (implMsgF (n + 0) (by omega) _ x (by assumption)) ?_
  refine w_not ?_
  refine w_split ((vMsgOk x)) (fun h2 => ?_) (fun h2 => ?_)
  ·refine w_cF (nF h2) ?_
   refine w_bin (v := .sc (.int .i64 (IntKind.i64.wrap ((pre.length : Int) + 1)))) (fun k => rfl) ?_
   rw [hix]
   refine (implQ_loop n hn ty l hlen hsl r (pre ++ [x]) m _  (by rw [hl]; simp) (by simpa using hm)).trans (congrArg (fun b => some (AV.sc (Value.bool b))) ?_)
   first | (subst_vars; simp only [goQi]; simp_all; done) | (subst_vars; unfold goQi; simp_all)
  ·refine w_cT (nT h2) ?_
   exact w_endB (by first | (subst_vars; simp only [goQi]; simp_all; done) | (subst_vars; unfold goQi; simp_all))
theorem specQueueF (n : Nat) (hn : 1048576 < n) (ty : Nat) (l : List MsgV) (hlen : l.length ≤ 1048576) (hsl : ∀ x ∈ l, x.fTopic.size ≤ 1048576) : tree E0 (n + 7) ty 144 [rowsC encMsg l] = some (.sc (.bool (vQueueOk l))) := by
 rw [tree_def, f144_eq, f144]
 have key := specQ_loop n hn ty l hlen hsl l [] (n + 6) [] rfl (by omega)
 rw [all_go vMsgOk (decide ((l.length : Int) ≤ 6)) (goQs l) (fun _ => rfl) (fun _ _ _ => rfl) l []] at key
 exact key
theorem implMsgsF (n : Nat) (hn : 1048576 < n) (ty : Nat) (l : List MsgV) (hlen : l.length ≤ 1048576) (hsl : ∀ x ∈ l, x.fTopic.size ≤ 1048576) : tree E0 (n + 7) ty 171 [rowsC encMsg l] = some (.sc (.bool (l.all vMsgOk))) := by
 rw [tree_def, f171_eq, f171]
 simp only [PR_len]
 refine w_len ?_
 have key := implQ_loop n hn ty l hlen hsl l [] (n + 6) [] rfl (by omega)
 rw [all_go vMsgOk true goQi (fun _ => rfl) (fun _ _ _ => rfl) l [], Bool.and_true] at key
 exact key
theorem implQueueF (n : Nat) (hn : 1048576 < n) (ty : Nat) (l : List MsgV) (hlen : l.length ≤ 1048576) (hsl : ∀ x ∈ l, x.fTopic.size ≤ 1048576) : tree E0 (n + 8) ty 140 [rowsC encMsg l] = some (.sc (.bool (vQueueOk l))) := by
 rw [tree_def, f140_eq, f140]
 try simp only [PR_box, PR_new, PR_fadr, PR_load, PR_store, PR_bin, PR_binB, PR_binA, PR_un, PR_cond, PR_guard, PR_pick, PR_len, PR_lenS, PR_iadr, PR_idx, PR_slice, PR_sliceS, PR_newSl, PR_fill, PR_make, PR_app, PR_cvI, PR_cvBS]
 refine w_len ?_
 refine w_bin (v := .sc (.bool (decide ((l.length : Int) ≤ 6)))) (fun k => rfl) ?_
 apply w_merge ((decide ((l.length : Int) ≤ 6)) && (l.all vMsgOk))
 ·intro b1 q1
  refine w_split ((decide ((l.length : Int) ≤ 6))) (fun h1 => ?_) (fun h1 => ?_)
  ·refine w_gT h1 ?_
   refine w_gT h1 ?_
   refine lw_sc rfl (vcons (Vw_ro _ _ _) vnil) (implMsgsF (n + 0) (by omega) _ l (by assumption) (by assumption)) ?_
   refine w_pTb h1 (mAT q1 h1) ?_
   exact rfl
  ·refine w_gF h1 ?_
   refine w_gF h1 ?_
   refine w_pFb h1 (mAF q1 h1) ?_
   exact rfl
 intro b1 q1
 exact w_endB (by subst_vars; unfold vQueueOk; rw [Bool.and_comm])
theorem queue_hyp (l : List MsgV) (b0 : wtL wtMsg l ≤ 1048576) : l.length ≤ 1048576 ∧ ∀ x ∈ l, x.fTopic.size ≤ 1048576 := by
 have h1 := wtL_eq wtMsg l
 refine ⟨by omega, fun x hx => ?_⟩
 have h2 := wtS_mem (wt := wtMsg) hx
 have h3 : wtMsg x = x.fTopic.size + (x.fBody.size + 0) := rfl
 omega
theorem specF_QueueOk (n : Nat) (hn : 1048576 < n) (l : List MsgV) (k0 : l.length ≤ 9223372036854775807 ∧ ∀ z ∈ l, okMsg z) (b0 : wtL wtMsg l ≤ 1048576) : tree E0 (n + 8) 4 144 [rowsC encMsg l] = some (.sc (.bool (vQueueOk l))) := specQueueF (n + 1) (by omega) _ l (queue_hyp l b0).1 (queue_hyp l b0).2
theorem implF_QueueOk (n : Nat) (hn : 1048576 < n) (l : List MsgV) (k0 : l.length ≤ 9223372036854775807 ∧ ∀ z ∈ l, okMsg z) (b0 : wtL wtMsg l ≤ 1048576) : tree E0 (n + 8) 4 140 [rowsC encMsg l] = some (.sc (.bool (vQueueOk l))) := implQueueF n hn _ l (queue_hyp l b0).1 (queue_hyp l b0).2
def vSt (x : FlightV) : Bool := if x.fM.fQos == 1 then x.fSt == 1 else (x.fM.fQos == 2 && (x.fSt == 2 || x.fSt == 3))
theorem l13StF (n : Nat) (ty : Nat) (x : FlightV) : tree E0 (n + 1) ty 143 [.agg (encFlight x)] = some (.sc (.bool (vSt x))) := by
 rw [tree_def, f143_eq, f143]
 try simp only [PR_box, PR_new, PR_fadr, PR_load, PR_store, PR_bin, PR_binB, PR_binA, PR_un, PR_cond, PR_guard, PR_pick, PR_len, PR_lenS, PR_iadr, PR_idx, PR_slice, PR_sliceS, PR_newSl, PR_fill, PR_make, PR_app, PR_cvI, PR_cvBS]
 refine w_box (flFlight _) fun iB1 eB1 B1 => ?_
 refine w_fadr ?_
 refine w_fadr ?_
 refine w_ld (c := .sc (.int .i64 x.fM.fQos)) B1 (Nat.le_of_ble_eq_true rfl) rfl ?_
 refine w_bin (v := .sc (.bool (x.fM.fQos == 1))) (fun k => rfl) ?_
 refine w_split ((x.fM.fQos == 1)) (fun h2 => ?_) (fun h2 => ?_)
 ·refine w_cT h2 ?_
  refine w_fadr ?_
  refine w_ld (c := .sc (.int .i64 x.fSt)) B1 (Nat.le_of_ble_eq_true rfl) rfl ?_
  refine w_bin (v := .sc (.bool (x.fSt == 1))) (fun k => rfl) ?_
  exact w_endB (by subst_vars; unfold vSt; simp_all)
 ·refine w_cF h2 ?_
  refine w_fadr ?_
  refine w_fadr ?_
  refine w_ld (c := .sc (.int .i64 x.fM.fQos)) B1 (Nat.le_of_ble_eq_true rfl) rfl ?_
  refine w_bin (v := .sc (.bool (x.fM.fQos == 2))) (fun k => rfl) ?_
  apply w_merge ((x.fM.fQos == 2) && ((x.fSt == 2) || (x.fSt == 3)))
  ·intro b3 q3
   refine w_split ((x.fM.fQos == 2)) (fun h3 => ?_) (fun h3 => ?_)
   ·refine w_gT h3 ?_
    refine w_fadr ?_
    refine w_gT h3 ?_
    refine w_ld (c := .sc (.int .i64 x.fSt)) B1 (Nat.le_of_ble_eq_true rfl) rfl ?_
    refine w_gT h3 ?_
    refine w_bin (v := .sc (.bool (x.fSt == 2))) (fun k => rfl) ?_
    refine w_gT h3 ?_
    apply w_merge ((x.fSt == 2) || (x.fSt == 3))
    ·intro b4 q4
     refine w_split ((x.fSt == 2)) (fun h4 => ?_) (fun h4 => ?_)
     ·refine w_hF h4 ?_
      refine w_hF h4 ?_
      refine w_hF h4 ?_
      refine w_gT h3 ?_
      refine w_pTb h4 (mOT q4 h4) ?_
      exact rfl
     ·refine w_hT h4 ?_
      refine w_fadr ?_
      refine w_hT h4 ?_
      refine w_ld (c := .sc (.int .i64 x.fSt)) B1 (Nat.le_of_ble_eq_true rfl) rfl ?_
      refine w_hT h4 ?_
      refine w_bin (v := .sc (.bool (x.fSt == 3))) (fun k => rfl) ?_
      refine w_gT h3 ?_
      refine w_pFb h4 (mOF q4 h4) ?_
      exact rfl
    intro b4 q4
    refine w_pTb h3 (by subst q4; exact mAT q3 h3) ?_
    exact rfl
   ·refine w_gF h3 ?_
    refine w_gF h3 ?_
    refine w_gF h3 ?_
    refine w_gF h3 ?_
    refine w_u ?_
    refine w_u ?_
    refine w_u ?_
    refine w_gF h3 ?_
    refine w_pFb h3 (mAF q3 h3) ?_
    exact rfl
  intro b3 q3
  exact w_endB (by subst_vars; unfold vSt; simp_all)
theorem isIdF (n : Nat) (ty : Nat) (x : Int) : tree E0 (n + 2) ty 137 [.sc (.int .i64 x)] = some (.sc (.bool (vIn x 1 65535))) := by
 rw [tree_def, f137_eq, f137]
 try simp only [PR_box, PR_new, PR_fadr, PR_load, PR_store, PR_bin, PR_binB, PR_binA, PR_un, PR_cond, PR_guard, PR_pick, PR_len, PR_lenS, PR_iadr, PR_idx, PR_slice, PR_sliceS, PR_newSl, PR_fill, PR_make, PR_app, PR_cvI, PR_cvBS]
 refine lw_sc rfl (vcons (Vw_sc _ _) (vcons (Vw_sc _ _) (vcons (Vw_sc _ _) vnil))) (withinF (n + 0) _ x 1 65535) ?_
 exact w_endB (by first | (simp_all [vIn, vTopicOk, vMsgOk, vQueueOk, vSt]; done) | (rw [Bool.eq_iff_iff]; simp [vIn, vTopicOk, vMsgOk, vQueueOk, vSt] at *; omega))
theorem isWordF (n : Nat) (ty : Nat) (x : Int) : tree E0 (n + 2) ty 139 [.sc (.int .i64 x)] = some (.sc (.bool (vIn x 0 65535))) := by
 rw [tree_def, f139_eq, f139]
 try simp only [PR_box, PR_new, PR_fadr, PR_load, PR_store, PR_bin, PR_binB, PR_binA, PR_un, PR_cond, PR_guard, PR_pick, PR_len, PR_lenS, PR_iadr, PR_idx, PR_slice, PR_sliceS, PR_newSl, PR_fill, PR_make, PR_app, PR_cvI, PR_cvBS]
 refine lw_sc rfl (vcons (Vw_sc _ _) (vcons (Vw_sc _ _) (vcons (Vw_sc _ _) vnil))) (withinF (n + 0) _ x 0 65535) ?_
 exact w_endB (by first | (simp_all [vIn, vTopicOk, vMsgOk, vQueueOk, vSt]; done) | (rw [Bool.eq_iff_iff]; simp [vIn, vTopicOk, vMsgOk, vQueueOk, vSt] at *; omega))
def flPre (pre : List FlightV) (x : FlightV) : Bool := pre.any fun y => y.fId == x.fId
def flGo : List FlightV → List FlightV → Bool
 | pre, [] => true
 | pre, x :: r => (vIn x.fId 1 65535 && vMsgOk x.fM && vSt x && !(flPre pre x)) && flGo (pre ++ [x]) r
def vOutOk (o : OutV) : Bool := flGo [] o.fFl && (vIn o.fLast 0 65535 && decide ((o.fFl.length : Int) ≤ 3) && vQueueOk o.fQ)
theorem fl_hyp (o : OutV) (b0 : wtOut o ≤ 1048576) : (o.fFl.length ≤ 1048576 ∧ ∀ x ∈ o.fFl, x.fM.fTopic.size ≤ 1048576) ∧ (o.fQ.length ≤ 1048576 ∧ ∀ x ∈ o.fQ, x.fTopic.size ≤ 1048576) := by
 have e : wtOut o = wtL wtFlight o.fFl + (wtL wtMsg o.fQ + 0) := rfl
 refine ⟨?_, queue_hyp _ (by omega)⟩
 have h1 := wtL_eq wtFlight o.fFl
 refine ⟨by omega, fun x hx => ?_⟩
 have h2 := wtS_mem (wt := wtFlight) hx
 have h3 : wtFlight x = x.fM.fTopic.size + (x.fM.fBody.size + 0) + 0 := rfl
 omega
theorem specFl_in (n : Nat) (ty : Nat) (o : OutV) (hlen : o.fFl.length ≤ 1048576) (x : FlightV) (g0 : AV → AV → Heap → Option AV) (kk : AV → Heap → Option AV) (i1 : Nat) (H : Heap) (B : H[i1]? = some ⟨encOut o, true, true⟩) (pre r : List FlightV) (hl : o.fFl = pre ++ x :: r) : ∀ (s p2 : List FlightV) (m : Nat), pre = p2 ++ s → s.length < m →
  f84_l1 (PR n AV) n g0 kk m (.ptr i1 0) (.sc (.int .i64 pre.length)) (.sc (.int .i64 p2.length)) H = if flPre s x then kk (.sc (.bool false)) H else g0 (.ptr i1 0) (.sc (.int .i64 (IntKind.i64.wrap ((pre.length : Int) + 1)))) H
 | [], p2, m + 1, he, hm => by
  rw [List.append_nil] at he
  subst he
  show (PR n AV).bin _ _ _ _ = _
  simp only [PR_bin, PR_cond, PR_fadr, PR_load, PR_iadr]
  rw [lss_nat, cond_b, if_neg (by simp)]
  rfl
 | y :: s, p2, m + 1, he, hm => by
  have hlt : p2.length < pre.length := by rw [he]; simp
  have hpl : pre.length < o.fFl.length := by rw [hl]; simp
  show (PR n AV).bin _ _ _ _ = _
  simp only [PR_bin, PR_cond, PR_fadr, PR_load, PR_iadr]
  rw [lss_nat, cond_b, if_pos (by simpa using hlt)]
  refine w_fadr ?_
  refine w_ld (c := rowsC encFlight o.fFl) B (Nat.le_of_ble_eq_true rfl) rfl ?_
  refine w_iadrE (pre := p2) (x := y) (t := s ++ x :: r) lenFlight (by decide) (by rw [hl, he]; simp) ?_
  refine w_fadr_rp ?_
  refine w_ld_rp (c := .sc (.int .i64 y.fId)) rfl ?_
  refine w_fadr ?_
  refine w_ld (c := rowsC encFlight o.fFl) B (Nat.le_of_ble_eq_true rfl) rfl ?_
  refine w_iadrE (pre := pre) (x := x) (t := r) lenFlight (by decide) hl ?_
  refine w_fadr_rp ?_
  refine w_ld_rp (c := .sc (.int .i64 x.fId)) rfl ?_
  refine w_bin (v := .sc (.bool (y.fId == x.fId))) (fun k => rfl) ?_
  have ih := specFl_in n ty o hlen x g0 kk i1 H B pre r hl s (p2 ++ [y]) m (by rw [he]; simp) (by simpa using hm)
  rw [List.length_append, List.length_singleton] at ih
  have hany : flPre (y :: s) x = (y.fId == x.fId || flPre s x) := rfl
  rw [hany]
  cases hid : (y.fId == x.fId)
  ·refine w_cF rfl ?_
   rw [inc_nat _ _ (by omega), ih]
   rfl
  ·exact w_cT rfl rfl
theorem idx_pre (p : FlightV → Bool) : ∀ (pre r : List FlightV) (x : FlightV) (i : Nat), p x = true → idxOf p (pre ++ x :: r) i = if pre.any p then idxOf p pre i else ((i + pre.length : Nat) : Int)
 | [], r, x, i, h => by simp [idxOf, h]
 | y :: pre, r, x, i, h => by
  rw [List.cons_append, idxOf, idx_pre p pre r x (i + 1) h, idxOf, List.any_cons]
  cases hy : p y
  ·simp only [Bool.false_eq_true, if_false, Bool.false_or, List.length_cons]
   rw [show i + 1 + pre.length = i + (pre.length + 1) by omega]
  ·simp
theorem idx_lt (p : FlightV → Bool) : ∀ (pre : List FlightV) (i : Nat), pre.any p = true → idxOf p pre i < ((i + pre.length : Nat) : Int)
 | [], i, h => by simp at h
 | y :: pre, i, h => by
  rw [idxOf]
  cases hy : p y
  ·rw [List.any_cons, hy, Bool.false_or] at h
   have := idx_lt p pre (i + 1) h
   simp only [Bool.false_eq_true, if_false, List.length_cons]
   omega
  ·simp only [if_true, List.length_cons]
   omega
theorem idx_self (o : OutV) (pre r : List FlightV) (x : FlightV) (hl : o.fFl = pre ++ x :: r) : (idxOf (fun y : FlightV => y.fId == x.fId) o.fFl 0 != (pre.length : Int)) = flPre pre x := by
 rw [hl, idx_pre _ pre r x 0 (by simp)]
 unfold flPre
 cases h : pre.any fun y => y.fId == x.fId
 ·simp
 ·have := idx_lt _ pre 0 h
  simp only [if_true]
  rw [bne_iff_ne.2]
  simp at this
  omega
theorem flightClo (n : Nat) (ty : Nat) (x : FlightV) (z : Int) : tree E0 (n + 1) ty 158 [.agg (encFlight x), .rp [.sc (.int .i64 z)]] = some (.sc (.bool (x.fId == z))) := by
 rw [tree_def, f158_eq, f158]
 simp only [PR_box, PR_fadr, PR_load, PR_bin]
 refine w_box (flFlight _) fun i e hi => ?_
 refine w_fadr ?_
 refine w_ld (c := .sc (.int .i64 x.fId)) hi (Nat.le_of_ble_eq_true rfl) rfl ?_
 refine w_ld_rp (c := .sc (.int .i64 z)) rfl ?_
 rw [eql64]
 rfl
theorem flightIndexF (n : Nat) (hn : 1048576 < n) (ty : Nat) (l : List FlightV) (z : Int) (hl : l.length ≤ 1048576) : tree E0 (n + 2) ty 157 [rowsC encFlight l, .fn 158 [] [.rp [.sc (.int .i64 z)]]] = some (.sc (.int .i64 (idxOf (fun y : FlightV => y.fId == z) l 0))) := by
 rw [tree_def, f157_eq, f157]
 simp only [PR_len]
 rw [len_ro]
 have key := index_loop (n := n + 1) (tb := 4) (g := 158) (caps := [.rp [.sc (.int .i64 z)]]) encFlight (fun y : FlightV => y.fId == z) (fun x H => ownTree ti0 E0.tp ty H x) lenFlight (by decide) flFlight rfl (fun H => rfl) (fun m a b c i H => f157_l0 (PR (n + 1) AV) (n + 1) (fun x H => ownTree ti0 E0.tp ty H x) m a b c i H) (fun m a b c i H => rfl) l (fun x _ => flightClo n _ x z) hl [] l [] (n + 1) rfl (by omega)
 simp only [List.length_nil, Int.natCast_zero] at key
 rw [key]
 rfl
theorem flightAtF (n : Nat) (hn : 1048576 < n) (ty : Nat) (l : List FlightV) (z : Int) (hl : l.length ≤ 1048576) : tree E0 (n + 3) ty 116 [rowsC encFlight l, .sc (.int .i64 z)] = some (.sc (.int .i64 (idxOf (fun y : FlightV => y.fId == z) l 0))) := by
 rw [tree_def, f116_eq, f116]
 simp only [PR_box]
 refine w_boxS rfl fun i2 e2 hi2 => ?_
 refine lw_sc rfl (vcons (Vw_ro _ _ _) (vcons (Vw_fn1 hi2 rfl) vnil)) (flightIndexF n hn _ l z hl) ?_
 rfl
theorem stEq (x : FlightV) (hv : vMsgOk x.fM = true) : vSt x = !((x.fM.fQos == 0) || (!((x.fM.fQos == 1) == (x.fSt == 1)) || !(vIn x.fSt 1 3))) := by
 have hq : 0 ≤ x.fM.fQos ∧ x.fM.fQos ≤ 2 := by
  unfold vMsgOk vIn at hv
  simp at hv
  exact hv.2
 unfold vSt vIn
 obtain h | h | h : x.fM.fQos = 0 ∨ x.fM.fQos = 1 ∨ x.fM.fQos = 2 := by omega
 ·simp [h]
 ·rw [h, Bool.eq_iff_iff]
  simp
  intro h1
  omega
 ·rw [h, Bool.eq_iff_iff]
  simp
  omega
def goOs (o : OutV) : List FlightV → List FlightV → Bool
 | pre, [] => vIn o.fLast 0 65535 && decide ((o.fFl.length : Int) ≤ 3) && vQueueOk o.fQ
 | pre, x :: r => (vIn x.fId 1 65535 && vMsgOk x.fM && vSt x && !(flPre pre x)) && goOs o (pre ++ [x]) r
theorem specFl_loop (n : Nat) (hn : 1048576 < n) (ty : Nat) (o : OutV) (hlen : o.fFl.length ≤ 1048576) (hsl : ∀ x ∈ o.fFl, x.fM.fTopic.size ≤ 1048576) (hqn : o.fQ.length ≤ 1048576) (hqs : ∀ x ∈ o.fQ, x.fTopic.size ≤ 1048576) (i1 : Nat) : ∀ (r pre : List FlightV) (m : Nat) (H : Heap) (B : H[i1]? = some ⟨encOut o, true, true⟩), o.fFl = pre ++ r → r.length < m → f84_l0 (PR (n + 8) AV) (n + 8) (fun x H => ownTree ti0 E0.tp ty H x) m (.ptr i1 0) (.sc (.int .i64 pre.length)) H = some (.sc (.bool (goOs o pre r)))
 | [], pre, m + 1, H, B, hl, hm => by
  have hlt : decide ((pre.length : Int) < (o.fFl.length : Int)) = false := by
   rw [hl]
   simp
  show (PR (n + 8) AV).fadr _ _ _ = _
  simp only [PR_box, PR_new, PR_fadr, PR_load, PR_store, PR_bin, PR_binB, PR_binA, PR_un, PR_cond, PR_guard, PR_pick, PR_len, PR_lenS, PR_iadr, PR_idx, PR_slice, PR_sliceS, PR_newSl, PR_fill, PR_make, PR_app, PR_cvI, PR_cvBS]
  refine w_fadr ?_
  refine w_ld (c := rowsC encFlight o.fFl) B (Nat.le_of_ble_eq_true rfl) rfl ?_
  refine w_len ?_
  refine w_bin (v := .sc (.bool (decide ((pre.length : Int) < (o.fFl.length : Int))))) (fun k => rfl) ?_
  refine w_cF hlt ?_
  refine w_fadr ?_
  refine w_ld (c := .sc (.int .i64 o.fLast)) B (Nat.le_of_ble_eq_true rfl) rfl ?_
  refine lw_sc rfl (vcons (Vw_sc _ _) (vcons (Vw_sc _ _) (vcons (Vw_sc _ _) vnil))) (l1InF (n + 7) _ o.fLast 0 65535) ?_
  apply w_merge ((vIn o.fLast 0 65535) && (decide ((o.fFl.length : Int) ≤ 3)))
  ·intro b1 q1
   refine w_split ((vIn o.fLast 0 65535)) (fun h1 => ?_) (fun h1 => ?_)
   ·refine w_gT h1 ?_
    refine w_fadr ?_
    refine w_gT h1 ?_
    refine w_ld (c := rowsC encFlight o.fFl) B (Nat.le_of_ble_eq_true rfl) rfl ?_
    refine w_gT h1 ?_
    refine w_len ?_
    refine w_gT h1 ?_
    refine w_bin (v := .sc (.bool (decide ((o.fFl.length : Int) ≤ 3)))) (fun k => rfl) ?_
    refine w_pTb h1 (mAT q1 h1) ?_
    exact rfl
   ·refine w_gF h1 ?_
    refine w_gF h1 ?_
    refine w_gF h1 ?_
    refine w_gF h1 ?_
    refine w_pFb h1 (mAF q1 h1) ?_
    exact rfl
  intro b1 q1
  apply w_merge (b1 && (vQueueOk o.fQ))
  ·intro b2 q2
   refine w_split (b1) (fun h2 => ?_) (fun h2 => ?_)
   ·refine w_gT h2 ?_
    refine w_fadr ?_
    refine w_gT h2 ?_
    refine w_ld (c := rowsC encMsg o.fQ) B (Nat.le_of_ble_eq_true rfl) rfl ?_
    refine w_gT h2 ?_
    refine lw_sc rfl (vcons (Vw_ro _ _ _) vnil) (specQueueF (n + 1) (by omega) _ o.fQ (by assumption) (by assumption)) ?_
    refine w_pTb h2 (mAT q2 h2) ?_
    exact rfl
   ·refine w_gF h2 ?_
    refine w_gF h2 ?_
    refine w_gF h2 ?_
    refine w_pFb h2 (mAF q2 h2) ?_
    exact rfl
  intro b2 q2
  exact w_endB (by (try clear ih); (try clear hlt); (try clear hix); (try clear hm); (try clear hmem); (try clear hpl); (try clear hsl); (try clear hlen); (try clear hqn); (try clear hqs); (try clear hs); (try clear B); (try clear B1); (try clear B2); (try clear hl); subst_vars; rw [goOs]; first | done | (cases h1 : vIn x.fId 1 65535 <;> cases h2 : vMsgOk x.fM <;> cases h3 : vSt x <;> cases h4 : flPre pre x <;> simp [h1, h2, h3, h4] at *))
 | x :: r, pre, m + 1, H, B, hl, hm => by
  have hpl : pre.length < o.fFl.length := by rw [hl]; simp
  have hlt : decide ((pre.length : Int) < (o.fFl.length : Int)) = true := by simpa using hpl
  have hmem : x ∈ o.fFl := by rw [hl]; simp
  have hix : IntKind.i64.wrap ((pre.length : Int) + 1) = (((pre ++ [x]).length : Nat) : Int) := by
   rw [wrap64 _ (by omega) (by omega), List.length_append, List.length_singleton]
   rfl
  try have hs : x.fM.fTopic.size ≤ 1048576 := hsl x (by assumption)
  show (PR (n + 8) AV).fadr _ _ _ = _
  simp only [PR_box, PR_new, PR_fadr, PR_load, PR_store, PR_bin, PR_binB, PR_binA, PR_un, PR_cond, PR_guard, PR_pick, PR_len, PR_lenS, PR_iadr, PR_idx, PR_slice, PR_sliceS, PR_newSl, PR_fill, PR_make, PR_app, PR_cvI, PR_cvBS]
  refine w_fadr ?_
  refine w_ld (c := rowsC encFlight o.fFl) B (Nat.le_of_ble_eq_true rfl) rfl ?_
  refine w_len ?_
  refine w_bin (v := .sc (.bool (decide ((pre.length : Int) < (o.fFl.length : Int))))) (fun k => rfl) ?_
  refine w_cT hlt ?_
  refine w_fadr ?_
  refine w_ld (c := rowsC encFlight o.fFl) B (Nat.le_of_ble_eq_true rfl) rfl ?_
  refine w_iadrE lenFlight (by decide) hl ?_
  refine w_fadr_rp ?_
  refine w_ld_rp (c := .sc (.int .i64 x.fId)) rfl ?_
  refine lw_sc rfl (vcons (Vw_sc _ _) (vcons (Vw_sc _ _) (vcons (Vw_sc _ _) vnil))) (l1InF (n + 7) _ x.fId 1 65535) ?_
  refine w_not ?_
  apply w_merge ((!(vIn x.fId 1 65535)) || (!(vMsgOk x.fM)))
  ·intro b1 q1
   refine w_split ((vIn x.fId 1 65535)) (fun h1 => ?_) (fun h1 => ?_)
   ·refine w_hT (nF h1) ?_
    refine w_fadr ?_
    refine w_hT (nF h1) ?_
    refine w_ld (c := rowsC encFlight o.fFl) B (Nat.le_of_ble_eq_true rfl) rfl ?_
    refine w_hT (nF h1) ?_
    refine w_hT (nF h1) ?_
    refine w_iadrE lenFlight (by decide) hl ?_
    refine w_hT (nF h1) ?_
    refine w_fadr_rp ?_
    refine w_hT (nF h1) ?_
    refine w_ldA_rp (ds := encMsg x.fM) (Nat.le_of_ble_eq_true rfl) rfl ?_
    refine w_hT (nF h1) ?_
    refine lw_sc rfl (vcons (Vw_agg _ (flMsg _)) vnil) (specMsgF (n + 2) (by omega) _ x.fM (by assumption)) ?_
    refine w_hT (nF h1) ?_
    refine w_not ?_
    refine w_pFb (nF h1) (mOF q1 (nF h1)) ?_
    exact rfl
   ·refine w_hF (nT h1) ?_
    refine w_hF (nT h1) ?_
    refine w_hF (nT h1) ?_
    refine w_hF (nT h1) ?_
    refine w_hF (nT h1) ?_
    refine w_hF (nT h1) ?_
    refine w_hF (nT h1) ?_
    refine w_hF (nT h1) ?_
    refine w_pTb (nT h1) (mOT q1 (nT h1)) ?_
    exact rfl
  intro b1 q1
  apply w_merge (b1 || (!(vSt x)))
  ·intro b2 q2
   refine w_split (b1) (fun h2 => ?_) (fun h2 => ?_)
   ·refine w_hF h2 ?_
    refine w_hF h2 ?_
    refine w_hF h2 ?_
    refine w_hF h2 ?_
    refine w_hF h2 ?_
    refine w_hF h2 ?_
    refine w_hF h2 ?_
    refine w_pTb h2 (mOT q2 h2) ?_
    exact rfl
   ·refine w_hT h2 ?_
    refine w_fadr ?_
    refine w_hT h2 ?_
    refine w_ld (c := rowsC encFlight o.fFl) B (Nat.le_of_ble_eq_true rfl) rfl ?_
    refine w_hT h2 ?_
    refine w_hT h2 ?_
    refine w_iadrE lenFlight (by decide) hl ?_
    refine w_hT h2 ?_
    refine w_ldA_rp (ds := encFlight x) (Nat.le_of_ble_eq_true rfl) rfl ?_
    refine w_hT h2 ?_
    refine lw_sc rfl (vcons (Vw_agg _ (flFlight _)) vnil) (l13StF (n + 7) _ x) ?_
    refine w_hT h2 ?_
    refine w_not ?_
    refine w_pFb h2 (mOF q2 h2) ?_
    exact rfl
  intro b2 q2
  refine w_split (b2) (fun h3 => ?_) (fun h3 => ?_)
  ·refine w_cT h3 ?_
   exact w_endB (by (try clear ih); (try clear hlt); (try clear hix); (try clear hm); (try clear hmem); (try clear hpl); (try clear hsl); (try clear hlen); (try clear hqn); (try clear hqs); (try clear hs); (try clear B); (try clear B1); (try clear B2); (try clear hl); subst_vars; rw [goOs]; first | done | (cases h1 : vIn x.fId 1 65535 <;> cases h2 : vMsgOk x.fM <;> cases h3 : vSt x <;> cases h4 : flPre pre x <;> simp [h1, h2, h3, h4] at *))
  ·refine w_cF h3 ?_
   have key := fun g0 kk => specFl_in (n + 8) ty o hlen x g0 kk i1 H B pre r hl pre [] (n + 8) rfl (by omega)
   simp only [List.length_nil, Int.natCast_zero] at key
   rw [key]
   clear key
   cases hpre : flPre pre x
   ·simp only [Bool.false_eq_true, if_false]
    rw [hix]
    refine (specFl_loop n hn ty o hlen hsl hqn hqs i1 r (pre ++ [x]) m _ B (by rw [hl]; simp) (by simpa using hm)).trans (congrArg (fun b => some (AV.sc (Value.bool b))) ?_)
    (try clear ih); (try clear hlt); (try clear hix); (try clear hm); (try clear hmem); (try clear hpl); (try clear hsl); (try clear hlen); (try clear hqn); (try clear hqs); (try clear hs); (try clear B); (try clear B1); (try clear B2); (try clear hl); subst_vars; rw [goOs]; first | done | (cases h1 : vIn x.fId 1 65535 <;> cases h2 : vMsgOk x.fM <;> cases h3 : vSt x <;> cases h4 : flPre pre x <;> simp [h1, h2, h3, h4] at *)
   ·simp only [if_true]
    exact w_endB (by (try clear ih); (try clear hlt); (try clear hix); (try clear hm); (try clear hmem); (try clear hpl); (try clear hsl); (try clear hlen); (try clear hqn); (try clear hqs); (try clear hs); (try clear B); (try clear B1); (try clear B2); (try clear hl); subst_vars; rw [goOs]; first | done | (cases h1 : vIn x.fId 1 65535 <;> cases h2 : vMsgOk x.fM <;> cases h3 : vSt x <;> cases h4 : flPre pre x <;> simp [h1, h2, h3, h4] at *))
theorem implFl_loop (n : Nat) (hn : 1048576 < n) (ty : Nat) (o : OutV) (hlen : o.fFl.length ≤ 1048576) (hsl : ∀ x ∈ o.fFl, x.fM.fTopic.size ≤ 1048576) (hqn : o.fQ.length ≤ 1048576) (hqs : ∀ x ∈ o.fQ, x.fTopic.size ≤ 1048576) (i1 : Nat) : ∀ (r pre : List FlightV) (m : Nat) (H : Heap) (B : H[i1]? = some ⟨encOut o, true, true⟩), o.fFl = pre ++ r → r.length < m → f80_l0 (PR (n + 9) AV) (n + 9) (fun x H => ownTree ti0 E0.tp ty H x) m (.ptr i1 0) (rowsC encFlight o.fFl) (.sc (.int .i64 (o.fFl.length : Int))) (.sc (.int .i64 pre.length)) H = some (.sc (.bool (goOs o pre r)))
 | [], pre, m + 1, H, B, hl, hm => by
  have hlt : decide ((pre.length : Int) < (o.fFl.length : Int)) = false := by
   rw [hl]
   simp
  show (PR (n + 9) AV).bin _ _ _ _ = _
  simp only [PR_box, PR_new, PR_fadr, PR_load, PR_store, PR_bin, PR_binB, PR_binA, PR_un, PR_cond, PR_guard, PR_pick, PR_len, PR_lenS, PR_iadr, PR_idx, PR_slice, PR_sliceS, PR_newSl, PR_fill, PR_make, PR_app, PR_cvI, PR_cvBS]
  refine w_bin (v := .sc (.bool (decide ((pre.length : Int) < (o.fFl.length : Int))))) (fun k => rfl) ?_
  refine w_cF hlt ?_
  refine w_fadr ?_
  refine w_ld (c := .sc (.int .i64 o.fLast)) B (Nat.le_of_ble_eq_true rfl) rfl ?_
  refine lw_sc rfl (vcons (Vw_sc _ _) vnil) (isWordF (n + 7) _ o.fLast) ?_
  apply w_merge ((vIn o.fLast 0 65535) && (decide ((o.fFl.length : Int) ≤ 3)))
  ·intro b1 q1
   refine w_split ((vIn o.fLast 0 65535)) (fun h1 => ?_) (fun h1 => ?_)
   ·refine w_gT h1 ?_
    refine w_fadr ?_
    refine w_gT h1 ?_
    refine w_ld (c := rowsC encFlight o.fFl) B (Nat.le_of_ble_eq_true rfl) rfl ?_
    refine w_gT h1 ?_
    refine w_len ?_
    refine w_gT h1 ?_
    refine w_bin (v := .sc (.bool (decide ((o.fFl.length : Int) ≤ 3)))) (fun k => rfl) ?_
    refine w_pTb h1 (mAT q1 h1) ?_
    exact rfl
   ·refine w_gF h1 ?_
    refine w_gF h1 ?_
    refine w_gF h1 ?_
    refine w_gF h1 ?_
    refine w_pFb h1 (mAF q1 h1) ?_
    exact rfl
  intro b1 q1
  apply w_merge (b1 && (vQueueOk o.fQ))
  ·intro b2 q2
   refine w_split (b1) (fun h2 => ?_) (fun h2 => ?_)
   ·refine w_gT h2 ?_
    refine w_fadr ?_
    refine w_gT h2 ?_
    refine w_ld (c := rowsC encMsg o.fQ) B (Nat.le_of_ble_eq_true rfl) rfl ?_
    refine w_gT h2 ?_
    refine lw_sc rfl (vcons (Vw_ro _ _ _) vnil) (implQueueF (n + 1) (by omega) _ o.fQ (by assumption) (by assumption)) ?_
    refine w_pTb h2 (mAT q2 h2) ?_
    exact rfl
   ·refine w_gF h2 ?_
    refine w_gF h2 ?_
    refine w_gF h2 ?_
    refine w_pFb h2 (mAF q2 h2) ?_
    exact rfl
  intro b2 q2
  exact w_endB (by (try clear ih); (try clear hlt); (try clear hix); (try clear hm); (try clear hmem); (try clear hpl); (try clear hsl); (try clear hlen); (try clear hqn); (try clear hqs); (try clear hs); (try clear B); (try clear B1); (try clear B2); (try clear hl); subst_vars; rw [goOs]; first | done | (cases h2 : vMsgOk x.fM <;> (try rw [stEq x h2]) <;> cases h1 : vIn x.fId 1 65535 <;> cases h4 : flPre pre x <;> cases h5 : (x.fM.fQos == 0) <;> cases h6 : ((x.fM.fQos == 1) == (x.fSt == 1)) <;> cases h7 : vIn x.fSt 1 3 <;> simp [h1, h2, h4, h5, h6, h7] at * <;> contradiction))
 | x :: r, pre, m + 1, H, B, hl, hm => by
  have hpl : pre.length < o.fFl.length := by rw [hl]; simp
  have hlt : decide ((pre.length : Int) < (o.fFl.length : Int)) = true := by simpa using hpl
  have hmem : x ∈ o.fFl := by rw [hl]; simp
  have hix : IntKind.i64.wrap ((pre.length : Int) + 1) = (((pre ++ [x]).length : Nat) : Int) := by
   rw [wrap64 _ (by omega) (by omega), List.length_append, List.length_singleton]
   rfl
  try have hs : x.fM.fTopic.size ≤ 1048576 := hsl x (by assumption)
  try have hidx := idx_self o pre r x hl
  show (PR (n + 9) AV).bin _ _ _ _ = _
  simp only [PR_box, PR_new, PR_fadr, PR_load, PR_store, PR_bin, PR_binB, PR_binA, PR_un, PR_cond, PR_guard, PR_pick, PR_len, PR_lenS, PR_iadr, PR_idx, PR_slice, PR_sliceS, PR_newSl, PR_fill, PR_make, PR_app, PR_cvI, PR_cvBS]
  refine w_bin (v := .sc (.bool (decide ((pre.length : Int) < (o.fFl.length : Int))))) (fun k => rfl) ?_
  refine w_cT hlt ?_
  refine w_iadrE lenFlight (by decide) hl ?_
  refine w_ldA_rp (ds := encFlight x) (Nat.le_of_ble_eq_true rfl) rfl ?_
  refine lw_put rfl (lenFlight _) (fl_leaf (flFlight _)) fun iB1 B1 => ?_
  replace B := blk_grow B [⟨encFlight x, true, true⟩]
  refine w_fadr ?_
  refine w_ld (c := .sc (.int .i64 x.fId)) B1 (Nat.le_of_ble_eq_true rfl) rfl ?_
  refine lw_sc rfl (vcons (Vw_sc _ _) vnil) (isIdF (n + 7) _ x.fId) ?_
  refine w_not ?_
  apply w_merge ((!(vIn x.fId 1 65535)) || ((idxOf (fun y : FlightV => y.fId == x.fId) o.fFl 0) != (pre.length : Int)))
  ·intro b2 q2
   refine w_split ((vIn x.fId 1 65535)) (fun h2 => ?_) (fun h2 => ?_)
   ·refine w_hT (nF h2) ?_
    refine w_fadr ?_
    refine w_hT (nF h2) ?_
    refine w_ld (c := rowsC encFlight o.fFl) B (Nat.le_of_ble_eq_true rfl) rfl ?_
    refine w_hT (nF h2) ?_
    refine w_fadr ?_
    refine w_hT (nF h2) ?_
    refine w_ld (c := .sc (.int .i64 x.fId)) B1 (Nat.le_of_ble_eq_true rfl) rfl ?_
    refine w_hT (nF h2) ?_
    refine lw_sc rfl (vcons (Vw_ro _ _ _) (vcons (Vw_sc _ _) vnil)) (flightAtF (n + 6) (by omega) _ o.fFl x.fId hlen) ?_
    refine w_hT (nF h2) ?_
    refine w_hT (nF h2) ?_
    refine w_bin (v := .sc (.bool ((idxOf (fun y : FlightV => y.fId == x.fId) o.fFl 0) != (pre.length : Int)))) (fun k => rfl) ?_
    refine w_pFb (nF h2) (mOF q2 (nF h2)) ?_
    exact rfl
   ·refine w_hF (nT h2) ?_
    refine w_hF (nT h2) ?_
    refine w_hF (nT h2) ?_
    refine w_hF (nT h2) ?_
    refine w_hF (nT h2) ?_
    refine w_hF (nT h2) ?_
    refine w_hF (nT h2) ?_
    refine w_pTb (nT h2) (mOT q2 (nT h2)) ?_
    exact rfl
  intro b2 q2
  apply w_merge (b2 || (!(vMsgOk x.fM)))
  ·intro b3 q3
   refine w_split (b2) (fun h3 => ?_) (fun h3 => ?_)
   ·refine w_hF h3 ?_
    refine w_hF h3 ?_
    refine w_hF h3 ?_
    refine w_hF h3 ?_
    refine w_pTb h3 (mOT q3 h3) ?_
    exact rfl
   ·refine w_hT h3 ?_
    refine w_fadr ?_
    refine w_hT h3 ?_
    refine w_ldA (ds := encMsg x.fM) B1 (Nat.le_of_ble_eq_true rfl) rfl ?_
    refine w_hT h3 ?_
    refine lw_sc rfl (vcons (Vw_agg _ (flMsg _)) vnil) (implMsgF (n + 3) (by omega) _ x.fM (by assumption)) ?_
    refine w_hT h3 ?_
    refine w_not ?_
    refine w_pFb h3 (mOF q3 h3) ?_
    exact rfl
  intro b3 q3
  refine w_split (b3) (fun h4 => ?_) (fun h4 => ?_)
  ·refine w_cT h4 ?_
   exact w_endB (by (try clear ih); (try clear hlt); (try clear hix); (try clear hm); (try clear hmem); (try clear hpl); (try clear hsl); (try clear hlen); (try clear hqn); (try clear hqs); (try clear hs); (try clear B); (try clear B1); (try clear B2); (try clear hl); subst_vars; rw [goOs]; first | done | (cases h2 : vMsgOk x.fM <;> (try rw [stEq x h2]) <;> cases h1 : vIn x.fId 1 65535 <;> cases h4 : flPre pre x <;> cases h5 : (x.fM.fQos == 0) <;> cases h6 : ((x.fM.fQos == 1) == (x.fSt == 1)) <;> cases h7 : vIn x.fSt 1 3 <;> simp [h1, h2, h4, h5, h6, h7] at * <;> contradiction))
  ·refine w_cF h4 ?_
   refine w_fadr ?_
   refine w_fadr ?_
   refine w_ld (c := .sc (.int .i64 x.fM.fQos)) B1 (Nat.le_of_ble_eq_true rfl) rfl ?_
   refine w_bin (v := .sc (.bool (x.fM.fQos == 0))) (fun k => rfl) ?_
   apply w_merge ((x.fM.fQos == 0) || (!((x.fM.fQos == 1) == (x.fSt == 1))))
   ·intro b5 q5
    refine w_split ((x.fM.fQos == 0)) (fun h5 => ?_) (fun h5 => ?_)
    ·refine w_hF h5 ?_
     refine w_hF h5 ?_
     refine w_hF h5 ?_
     refine w_hF h5 ?_
     refine w_hF h5 ?_
     refine w_hF h5 ?_
     refine w_hF h5 ?_
     refine w_hF h5 ?_
     refine w_pTb h5 (mOT q5 h5) ?_
     exact rfl
    ·refine w_hT h5 ?_
     refine w_fadr ?_
     refine w_hT h5 ?_
     refine w_fadr ?_
     refine w_hT h5 ?_
     refine w_ld (c := .sc (.int .i64 x.fM.fQos)) B1 (Nat.le_of_ble_eq_true rfl) rfl ?_
     refine w_hT h5 ?_
     refine w_bin (v := .sc (.bool (x.fM.fQos == 1))) (fun k => rfl) ?_
     refine w_hT h5 ?_
     refine w_fadr ?_
     refine w_hT h5 ?_
     refine w_ld (c := .sc (.int .i64 x.fSt)) B1 (Nat.le_of_ble_eq_true rfl) rfl ?_
     refine w_hT h5 ?_
     refine w_bin (v := .sc (.bool (x.fSt == 1))) (fun k => rfl) ?_
     refine w_hT h5 ?_
     refine w_binB (v := .sc (.bool (!((x.fM.fQos == 1) == (x.fSt == 1))))) (fun k => rfl) ?_
     refine w_pFb h5 (mOF q5 h5) ?_
     exact rfl
   intro b5 q5
   apply w_merge (b5 || (!(vIn x.fSt 1 3)))
   ·intro b6 q6
    refine w_split (b5) (fun h6 => ?_) (fun h6 => ?_)
    ·refine w_hF h6 ?_
     refine w_hF h6 ?_
     refine w_hF h6 ?_
     refine w_hF h6 ?_
     refine w_pTb h6 (mOT q6 h6) ?_
     exact rfl
    ·refine w_hT h6 ?_
     refine w_fadr ?_
     refine w_hT h6 ?_
     refine w_ld (c := .sc (.int .i64 x.fSt)) B1 (Nat.le_of_ble_eq_true rfl) rfl ?_
     refine w_hT h6 ?_
     refine lw_sc rfl (vcons (Vw_sc _ _) (vcons (Vw_sc _ _) (vcons (Vw_sc _ _) vnil))) (withinF (n + 8) _ x.fSt 1 3) ?_
     refine w_hT h6 ?_
     refine w_not ?_
     refine w_pFb h6 (mOF q6 h6) ?_
     exact rfl
   intro b6 q6
   refine w_split (b6) (fun h7 => ?_) (fun h7 => ?_)
   ·refine w_cT h7 ?_
    exact w_endB (by (try clear ih); (try clear hlt); (try clear hix); (try clear hm); (try clear hmem); (try clear hpl); (try clear hsl); (try clear hlen); (try clear hqn); (try clear hqs); (try clear hs); (try clear B); (try clear B1); (try clear B2); (try clear hl); subst_vars; rw [goOs]; first | done | (cases h2 : vMsgOk x.fM <;> (try rw [stEq x h2]) <;> cases h1 : vIn x.fId 1 65535 <;> cases h4 : flPre pre x <;> cases h5 : (x.fM.fQos == 0) <;> cases h6 : ((x.fM.fQos == 1) == (x.fSt == 1)) <;> cases h7 : vIn x.fSt 1 3 <;> simp [h1, h2, h4, h5, h6, h7] at * <;> contradiction))
   ·refine w_cF h7 ?_
    refine w_bin (v := .sc (.int .i64 (IntKind.i64.wrap ((pre.length : Int) + 1)))) (fun k => rfl) ?_
    rw [hix]
    refine (implFl_loop n hn ty o hlen hsl hqn hqs i1 r (pre ++ [x]) m _ B (by rw [hl]; simp) (by simpa using hm)).trans (congrArg (fun b => some (AV.sc (Value.bool b))) ?_)
    (try clear ih); (try clear hlt); (try clear hix); (try clear hm); (try clear hmem); (try clear hpl); (try clear hsl); (try clear hlen); (try clear hqn); (try clear hqs); (try clear hs); (try clear B); (try clear B1); (try clear B2); (try clear hl); subst_vars; rw [goOs]; first | done | (cases h2 : vMsgOk x.fM <;> (try rw [stEq x h2]) <;> cases h1 : vIn x.fId 1 65535 <;> cases h4 : flPre pre x <;> cases h5 : (x.fM.fQos == 0) <;> cases h6 : ((x.fM.fQos == 1) == (x.fSt == 1)) <;> cases h7 : vIn x.fSt 1 3 <;> simp [h1, h2, h4, h5, h6, h7] at * <;> contradiction)
theorem goOs_go (o : OutV) : ∀ (r pre : List FlightV), goOs o pre r = (flGo pre r && (vIn o.fLast 0 65535 && decide ((o.fFl.length : Int) ≤ 3) && vQueueOk o.fQ))
 | [], pre => by rw [goOs, flGo, Bool.true_and]
 | x :: r, pre => by
  rw [goOs, flGo, goOs_go o r]
  simp only [Bool.and_assoc]
def msgD : MsgV := ⟨⟨#[]⟩, ⟨#[]⟩, 0, false⟩
theorem w_iadrH {α β : Type} {r : Option β} {w : Nat} {enc : α → List AV} {l : List α} {d : α} {K : AV → Option β} (hw : ∀ x, (enc x).length = w) (h0 : 0 < w) (hl : 0 < l.length) (h : K (.rp (enc (l.headD d) ++ (l.tail.map enc).flatten)) = r) : pIadr w (rowsC enc l) (.sc (.int .i64 0)) (fun t => K t) = r := by
 refine w_iadr0 hw h0 hl fun x t e => ?_
 subst e
 exact h
theorem specOutF (n : Nat) (hn : 1048576 < n) (ty : Nat) (o : OutV) (b0 : wtOut o ≤ 1048576) : tree E0 (n + 10) ty 84 [.agg (encOut o)] = some (.sc (.bool (vOutOk o))) := by
 obtain ⟨⟨h1, h2⟩, h3, h4⟩ := fl_hyp o b0
 rw [tree_def, f84_eq, f84]
 simp only [PR_box]
 refine w_box (flOut _) fun i e hi => ?_
 have key := specFl_loop (n + 1) (by omega) ty o h1 h2 h3 h4 i o.fFl [] (n + 9) _ hi rfl (by omega)
 rw [goOs_go] at key
 exact key
theorem implOutF (n : Nat) (hn : 1048576 < n) (ty : Nat) (o : OutV) (b0 : wtOut o ≤ 1048576) : tree E0 (n + 10) ty 80 [.agg (encOut o)] = some (.sc (.bool (vOutOk o))) := by
 obtain ⟨⟨h1, h2⟩, h3, h4⟩ := fl_hyp o b0
 rw [tree_def, f80_eq, f80]
 simp only [PR_box, PR_fadr, PR_load, PR_len]
 refine w_box (flOut _) fun i e hi => ?_
 refine w_fadr ?_
 refine w_ld (c := rowsC encFlight o.fFl) hi (Nat.le_of_ble_eq_true rfl) rfl ?_
 refine w_len ?_
 have key := implFl_loop n hn ty o h1 h2 h3 h4 i o.fFl [] (n + 9) _ hi rfl (by omega)
 rw [goOs_go] at key
 exact key
theorem specF_OutOk (n : Nat) (hn : 1048576 < n) (o : OutV) (k0 : okOut o) (b0 : wtOut o ≤ 1048576) : tree E0 (n + 10) 4 84 [.agg (encOut o)] = some (.sc (.bool (vOutOk o))) := specOutF n hn _ o b0
theorem specF_OutReady (n : Nat) (hn : 1048576 < n) (o : OutV) (k0 : okOut o) (b0 : wtOut o ≤ 1048576) : tree E0 (n + 11) 4 105 [.agg (encOut o)] = some (.sc (.bool ((vOutOk o && decide ((o.fQ.length : Int) > 0)) && ((o.fQ.headD msgD).fQos == 0 || decide ((o.fFl.length : Int) < 3))))) := by
 rw [tree_def, f105_eq, f105]
 try simp only [PR_box, PR_new, PR_fadr, PR_load, PR_store, PR_bin, PR_binB, PR_binA, PR_un, PR_cond, PR_guard, PR_pick, PR_len, PR_lenS, PR_iadr, PR_idx, PR_slice, PR_sliceS, PR_newSl, PR_fill, PR_make, PR_app, PR_cvI, PR_cvBS]
 have hwo := b0
 refine w_box (flOut _) fun iB1 eB1 B1 => ?_
 refine w_ldA (ds := encOut o) B1 (Nat.le_of_ble_eq_true rfl) rfl ?_
 refine lw_sc rfl (vcons (Vw_agg _ (flOut _)) vnil) (specOutF (n + 0) (by omega) _ o hwo) ?_
 apply w_merge ((vOutOk o) && (decide ((o.fQ.length : Int) > 0)))
 ·intro b2 q2
  refine w_split ((vOutOk o)) (fun h2 => ?_) (fun h2 => ?_)
  ·refine w_gT h2 ?_
   refine w_fadr ?_
   refine w_gT h2 ?_
   refine w_ld (c := rowsC encMsg o.fQ) B1 (Nat.le_of_ble_eq_true rfl) rfl ?_
   refine w_gT h2 ?_
   refine w_len ?_
   refine w_gT h2 ?_
   refine w_bin (v := .sc (.bool (decide ((o.fQ.length : Int) > 0)))) (fun k => rfl) ?_
   refine w_pTb h2 (mAT q2 h2) ?_
   exact rfl
  ·refine w_gF h2 ?_
   refine w_gF h2 ?_
   refine w_gF h2 ?_
   refine w_gF h2 ?_
   refine w_pFb h2 (mAF q2 h2) ?_
   exact rfl
 intro b2 q2
 apply w_merge (b2 && ((((o.fQ.headD msgD).fQos) == 0) || (decide ((o.fFl.length : Int) < 3))))
 ·intro b3 q3
  refine w_split (b2) (fun h3 => ?_) (fun h3 => ?_)
  ·refine w_gT h3 ?_
   refine w_fadr ?_
   refine w_gT h3 ?_
   refine w_ld (c := rowsC encMsg o.fQ) B1 (Nat.le_of_ble_eq_true rfl) rfl ?_
   refine w_gT h3 ?_
   refine w_iadrH (d := msgD) lenMsg (by decide) (by first | (simp_all; done) | (simp at *; omega)) ?_
   refine w_gT h3 ?_
   refine w_fadr_rp ?_
   refine w_gT h3 ?_
   refine w_ld_rp (c := .sc (.int .i64 ((o.fQ.headD msgD).fQos))) rfl ?_
   refine w_gT h3 ?_
   refine w_bin (v := .sc (.bool (((o.fQ.headD msgD).fQos) == 0))) (fun k => rfl) ?_
   refine w_gT h3 ?_
   apply w_merge ((((o.fQ.headD msgD).fQos) == 0) || (decide ((o.fFl.length : Int) < 3)))
   ·intro b4 q4
    refine w_split ((((o.fQ.headD msgD).fQos) == 0)) (fun h4 => ?_) (fun h4 => ?_)
    ·refine w_hF h4 ?_
     refine w_hF h4 ?_
     refine w_hF h4 ?_
     refine w_hF h4 ?_
     refine w_gT h3 ?_
     refine w_pTb h4 (mOT q4 h4) ?_
     exact rfl
    ·refine w_hT h4 ?_
     refine w_fadr ?_
     refine w_hT h4 ?_
     refine w_ld (c := rowsC encFlight o.fFl) B1 (Nat.le_of_ble_eq_true rfl) rfl ?_
     refine w_hT h4 ?_
     refine w_len ?_
     refine w_hT h4 ?_
     refine w_bin (v := .sc (.bool (decide ((o.fFl.length : Int) < 3)))) (fun k => rfl) ?_
     refine w_gT h3 ?_
     refine w_pFb h4 (mOF q4 h4) ?_
     exact rfl
   intro b4 q4
   refine w_pTb h3 (by subst q4; exact mAT q3 h3) ?_
   exact rfl
  ·refine w_gF h3 ?_
   refine w_gF h3 ?_
   refine w_gF h3 ?_
   refine w_gF h3 ?_
   refine w_gF h3 ?_
   refine w_gF h3 ?_
   refine w_gF h3 ?_
   refine w_u ?_
   refine w_u ?_
   refine w_u ?_
   refine w_u ?_
   refine w_gF h3 ?_
   refine w_pFb h3 (mAF q3 h3) ?_
   exact rfl
 intro b3 q3
 exact w_endB (by subst_vars; rfl)
theorem implF_OutOk (n : Nat) (hn : 1048576 < n) (o : OutV) (k0 : okOut o) (b0 : wtOut o ≤ 1048576) : tree E0 (n + 10) 4 80 [.agg (encOut o)] = some (.sc (.bool (vOutOk o))) := implOutF n hn _ o b0
theorem implF_OutReady (n : Nat) (hn : 1048576 < n) (o : OutV) (k0 : okOut o) (b0 : wtOut o ≤ 1048576) : tree E0 (n + 11) 4 109 [.agg (encOut o)] = some (.sc (.bool ((vOutOk o && decide ((o.fQ.length : Int) > 0)) && ((o.fQ.headD msgD).fQos == 0 || decide ((o.fFl.length : Int) < 3))))) := by
 rw [tree_def, f109_eq, f109]
 try simp only [PR_box, PR_new, PR_fadr, PR_load, PR_store, PR_bin, PR_binB, PR_binA, PR_un, PR_cond, PR_guard, PR_pick, PR_len, PR_lenS, PR_iadr, PR_idx, PR_slice, PR_sliceS, PR_newSl, PR_fill, PR_make, PR_app, PR_cvI, PR_cvBS]
 have hwo := b0
 refine w_box (flOut _) fun iB1 eB1 B1 => ?_
 refine w_ldA (ds := encOut o) B1 (Nat.le_of_ble_eq_true rfl) rfl ?_
 refine lw_sc rfl (vcons (Vw_agg _ (flOut _)) vnil) (implOutF (n + 0) (by omega) _ o hwo) ?_
 apply w_merge ((vOutOk o) && (decide ((o.fQ.length : Int) > 0)))
 ·intro b2 q2
  refine w_split ((vOutOk o)) (fun h2 => ?_) (fun h2 => ?_)
  ·refine w_gT h2 ?_
   refine w_fadr ?_
   refine w_gT h2 ?_
   refine w_ld (c := rowsC encMsg o.fQ) B1 (Nat.le_of_ble_eq_true rfl) rfl ?_
   refine w_gT h2 ?_
   refine w_len ?_
   refine w_gT h2 ?_
   refine w_bin (v := .sc (.bool (decide ((o.fQ.length : Int) > 0)))) (fun k => rfl) ?_
   refine w_pTb h2 (mAT q2 h2) ?_
   exact rfl
  ·refine w_gF h2 ?_
   refine w_gF h2 ?_
   refine w_gF h2 ?_
   refine w_gF h2 ?_
   refine w_pFb h2 (mAF q2 h2) ?_
   exact rfl
 intro b2 q2
 apply w_merge (b2 && ((((o.fQ.headD msgD).fQos) == 0) || (decide ((o.fFl.length : Int) < 3))))
 ·intro b3 q3
  refine w_split (b2) (fun h3 => ?_) (fun h3 => ?_)
  ·refine w_gT h3 ?_
   refine w_fadr ?_
   refine w_gT h3 ?_
   refine w_ld (c := rowsC encMsg o.fQ) B1 (Nat.le_of_ble_eq_true rfl) rfl ?_
   refine w_gT h3 ?_
   refine w_iadrH (d := msgD) lenMsg (by decide) (by first | (simp_all; done) | (simp at *; omega)) ?_
   refine w_gT h3 ?_
   refine w_fadr_rp ?_
   refine w_gT h3 ?_
   refine w_ld_rp (c := .sc (.int .i64 ((o.fQ.headD msgD).fQos))) rfl ?_
   refine w_gT h3 ?_
   refine w_bin (v := .sc (.bool (((o.fQ.headD msgD).fQos) == 0))) (fun k => rfl) ?_
   refine w_gT h3 ?_
   apply w_merge ((((o.fQ.headD msgD).fQos) == 0) || (decide ((o.fFl.length : Int) < 3)))
   ·intro b4 q4
    refine w_split ((((o.fQ.headD msgD).fQos) == 0)) (fun h4 => ?_) (fun h4 => ?_)
    ·refine w_hF h4 ?_
     refine w_hF h4 ?_
     refine w_hF h4 ?_
     refine w_hF h4 ?_
     refine w_gT h3 ?_
     refine w_pTb h4 (mOT q4 h4) ?_
     exact rfl
    ·refine w_hT h4 ?_
     refine w_fadr ?_
     refine w_hT h4 ?_
     refine w_ld (c := rowsC encFlight o.fFl) B1 (Nat.le_of_ble_eq_true rfl) rfl ?_
     refine w_hT h4 ?_
     refine w_len ?_
     refine w_hT h4 ?_
     refine w_bin (v := .sc (.bool (decide ((o.fFl.length : Int) < 3)))) (fun k => rfl) ?_
     refine w_gT h3 ?_
     refine w_pFb h4 (mOF q4 h4) ?_
     exact rfl
   intro b4 q4
   refine w_pTb h3 (by subst q4; exact mAT q3 h3) ?_
   exact rfl
  ·refine w_gF h3 ?_
   refine w_gF h3 ?_
   refine w_gF h3 ?_
   refine w_gF h3 ?_
   refine w_gF h3 ?_
   refine w_gF h3 ?_
   refine w_gF h3 ?_
   refine w_u ?_
   refine w_u ?_
   refine w_u ?_
   refine w_u ?_
   refine w_gF h3 ?_
   refine w_pFb h3 (mAF q3 h3) ?_
   exact rfl
 intro b3 q3
 exact w_endB (by subst_vars; rfl)
end Go.Proofs.YtdameggfgnpehaaGreatDoor.Abs
set_option linter.unusedVariables false
set_option linter.unusedSimpArgs false
set_option maxRecDepth 100000
namespace Go.Proofs.YtdameggfgnpehaaGreatDoor.Abs
open Go
variable {β : Type} {n : Nat} {r : Option β}
theorem app_bytes (s : ByteArray) (hs : s.size ≤ 140737488355328) (H : Heap) (K : AV → Heap → Option β) : pApp 1 1 .nl (bytesC s) H K = K (.sl H.length 0 s.size 1) (H ++ [⟨bytesAV s, true, true⟩]) := by
 have e1 : content H 1 (bytesC s) = some (bytesAV s) := by
  show (if (bytesAV s).length = s.size * 1 then some (bytesAV s) else none) = _
  rw [if_pos (by rw [bytesAV_len]; omega)]
 have e2 : content H 1 .nl = some [] := rfl
 have e3 : lenA (bytesC s) = some s.size := rfl
 simp only [pApp, lenA, e1, e2, kill, Option.bind_some, e3]
 rw [if_pos (by omega), if_pos (bytesAV_leaf s)]
 simp only [pNewSl, Nat.zero_add, List.nil_append]
theorem own_bytes {H : Heap} {id d : Nat} {s : ByteArray} (h : H[id]? = some ⟨bytesAV s, true, true⟩) : ownT ti0 E0.tp H (d + 2) 43 (.sl id 0 s.size 1) = some (bytesC s, [id]) := by
 rw [ownT_sl]
 have ha : isApp H id = true := by simp only [isApp, h]
 have hr : rdCells H id 0 (s.size * 1) = some (bytesAV s) := by
  have hl := bytesAV_len s
  simp only [rdCells, h, if_true, Nat.zero_add, Nat.mul_one, hl, Nat.le_refl, List.drop_zero]
  rw [← hl, List.take_length]
 obtain ⟨i, j, h1, h2, h3, h4⟩ := tyByteS
 simp only [h1, h2, Option.bind_some, h3, if_true, ha, hr]
 have ho := ownL_sc (ti := ti0) (tp := E0.tp) (H := H) (d := d) (List.replicate s.size j.cty).flatten (bv s) (by rw [bv_len]; simp [h4])
 rw [bytesAV_eq, ho, Option.bind_some, ← bytesAV_eq]
theorem joined1F (n : Nat) (hn : 1 < n) (s : ByteArray) (hs : s.size ≤ 1048576) : tree E0 (n + 1) 43 149 [.ro 1 [bytesC s]] = some (bytesC s) := by
 rw [tree_def, f149_eq, f149]
 simp only [PR_len]
 refine w_len ?_
 obtain ⟨m, rfl⟩ : ∃ m, n = m + 2 := ⟨n - 2, by omega⟩
 rw [f149_l0]
 simp only [PR_bin, PR_cond, PR_iadr, PR_load, PR_app]
 refine w_bin (v := .sc (.bool true)) (fun k => rfl) ?_
 refine w_cT rfl ?_
 have e1 : ∀ K : AV → Option AV, pIadr 1 (.ro 1 [bytesC s]) (.sc (.int .i64 0)) K = K (.rp [bytesC s]) := fun K => iadr_ro 1 1 [bytesC s] 0 K (by decide) (by simp)
 rw [e1, ld1_rp, app_bytes s (by omega)]
 refine w_bin (v := .sc (.int .i64 1)) (fun k => rfl) ?_
 rw [f149_l0]
 simp only [PR_bin, PR_cond]
 refine w_bin (v := .sc (.bool false)) (fun k => rfl) ?_
 refine w_cF rfl ?_
 rw [ownTree, own_bytes (d := 6) (s := s) rfl]
 rfl
theorem own_msg {H : Heap} {id d : Nat} {m : MsgV} (h : H[id]? = some ⟨bytesAV m.fBody, true, true⟩) : ownL (ownT ti0 E0.tp H (d + 2)) ctyMsg [.sc (.string m.fTopic), .sl id 0 m.fBody.size 1, .sc (.int .i64 m.fQos), .sc (.bool m.fRetain)] = some (encMsg m, [id]) := by
 have hb := own_bytes (d := d) h
 simp only [ctyMsg, ownL, ownT_sc, hb, Option.bind_some, List.nil_append, List.append_nil]
 rfl
theorem own_aggMsg {H : Heap} {id : Nat} {m : MsgV} (h : H[id]? = some ⟨bytesAV m.fBody, true, true⟩) : ownTree ti0 E0.tp 49 H (.agg [.sc (.string m.fTopic), .sl id 0 m.fBody.size 1, .sc (.int .i64 m.fQos), .sc (.bool m.fRetain)]) = some (.agg (encMsg m)) := by
 obtain ⟨i, hi, hc⟩ := tyMsg
 rw [ownTree, ownT_agg, hi, Option.bind_some, hc, own_msg (d := 5) h]
 rfl
theorem l12MsgF (n : Nat) (m : MsgV) (hs : m.fBody.size ≤ 1048576) : tree E0 (n + 1) 49 152 [.agg (encMsg m)] = some (.agg (encMsg m)) := by
 rw [tree_def, f152_eq, f152]
 simp only [PR_box, PR_new, PR_fadr, PR_load, PR_app, PR_fill, PR_store, pNew]
 rw [box_fl _ _ _ (flMsg m)]
 simp only [List.length_nil, List.nil_append, List.length_cons, Nat.zero_add]
 have hH : ([⟨encMsg m, true, true⟩] ++ [⟨zzMsg, true, true⟩] : Heap)[0]? = some ⟨encMsg m, true, true⟩ := rfl
 refine w_fadr ?_
 refine w_ld (c := .sc (.string m.fTopic)) hH (Nat.le_of_ble_eq_true rfl) rfl ?_
 refine w_fadr ?_
 refine w_ld (c := bytesC m.fBody) hH (Nat.le_of_ble_eq_true rfl) rfl ?_
 refine w_fadr ?_
 refine w_ld (c := .sc (.int .i64 m.fQos)) hH (Nat.le_of_ble_eq_true rfl) rfl ?_
 refine w_fadr ?_
 refine w_ld (c := .sc (.bool m.fRetain)) hH (Nat.le_of_ble_eq_true rfl) rfl ?_
 rw [app_bytes _ (by omega)]
 refine w_fill (cs := [.sc (.string m.fTopic), .sl 2 0 m.fBody.size 1, .sc (.int .i64 m.fQos), .sc (.bool m.fRetain)]) rfl ?_
 rw [st_at 4 1 0 _ ⟨zzMsg, true, true⟩ [.sc (.string m.fTopic), .sl 2 0 m.fBody.size 1, .sc (.int .i64 m.fQos), .sc (.bool m.fRetain)] _ _ rfl rfl rfl (by decide) rfl]
 refine w_ldA (ds := [.sc (.string m.fTopic), .sl 2 0 m.fBody.size 1, .sc (.int .i64 m.fQos), .sc (.bool m.fRetain)]) (cs := [.sc (.string m.fTopic), .sl 2 0 m.fBody.size 1, .sc (.int .i64 m.fQos), .sc (.bool m.fRetain)]) rfl (Nat.le_refl _) rfl ?_
 exact own_aggMsg rfl
theorem copyMsgF (n : Nat) (hn : 1 < n) (m : MsgV) (hs : m.fBody.size ≤ 1048576) : tree E0 (n + 2) 49 155 [.agg (encMsg m)] = some (.agg (encMsg m)) := by
 rw [tree_def, f155_eq, f155]
 simp only [PR_box, PR_new, PR_fadr, PR_load, PR_app, PR_fill, PR_store, PR_newSl, pNew]
 rw [box_fl _ _ _ (flMsg m)]
 simp only [List.length_nil, List.nil_append, List.length_cons, Nat.zero_add]
 have hH : ([⟨encMsg m, true, true⟩] ++ [⟨zzMsg, true, true⟩] : Heap)[0]? = some ⟨encMsg m, true, true⟩ := rfl
 refine w_fadr ?_
 refine w_ld (c := bytesC m.fBody) hH (Nat.le_of_ble_eq_true rfl) rfl ?_
 refine w_fill (cs := [bytesC m.fBody]) rfl ?_
 simp only [pNewSl]
 rw [PR_call (vs := [.ro 1 [bytesC m.fBody]]) rfl rfl (joined1F n hn m.fBody hs)]
 obtain ⟨i, j, h1, h2, h3, h4⟩ := tyByteS
 have hi : ∀ N, instT ti0 E0.tp N 43 (bytesC m.fBody) = (.sl N 0 m.fBody.size 1, [⟨bytesAV m.fBody, true, true⟩]) := by
  intro N
  show instT ti0 E0.tp N 43 (.ro m.fBody.size (bytesAV m.fBody)) = _
  simp only [instT, h1, Option.bind_some, h2, Option.getD_some, h3, bytesAV_eq, instL_sc]
 rw [hi]
 simp only
 refine w_fadr ?_
 rw [st_at 1 0 (0 + 1) _ ⟨encMsg m, true, true⟩ [.sl 3 0 m.fBody.size 1] _ _ rfl rfl rfl (Nat.le_of_ble_eq_true rfl) rfl]
 refine w_ldA (ds := [.sc (.string m.fTopic), .sl 3 0 m.fBody.size 1, .sc (.int .i64 m.fQos), .sc (.bool m.fRetain)]) (cs := [.sc (.string m.fTopic), .sl 3 0 m.fBody.size 1, .sc (.int .i64 m.fQos), .sc (.bool m.fRetain)]) rfl (Nat.le_refl _) rfl ?_
 rw [st_at 4 1 0 _ ⟨zzMsg, true, true⟩ [.sc (.string m.fTopic), .sl 3 0 m.fBody.size 1, .sc (.int .i64 m.fQos), .sc (.bool m.fRetain)] _ _ rfl rfl rfl (by decide) rfl]
 refine w_ldA (ds := [.sc (.string m.fTopic), .sl 3 0 m.fBody.size 1, .sc (.int .i64 m.fQos), .sc (.bool m.fRetain)]) (cs := [.sc (.string m.fTopic), .sl 3 0 m.fBody.size 1, .sc (.int .i64 m.fQos), .sc (.bool m.fRetain)]) rfl (Nat.le_refl _) rfl ?_
 exact own_aggMsg rfl
theorem copy_step {d w te g bytes k : Nat} {cty : List Nat} {H X0 : Heap} {x : AV} {cells cs z : List AV} {args vs : List AV} {K : AV → Heap → Option β} (hx : OwnS d H w cty x k cells) (hh : plainF g = false) (hv : args.mapM (viewV (H ++ X0) 8) = some vs) (ht : tree E0 n te g vs = some (.agg cs))
  (hte : ∃ i, ti0 te = some i ∧ i.cty = cty) (hok : okLW (okW ti0 E0.tp d) cty cs) (hfl : cs.all isFl = true) (hw : cs.length = w) (hz : z.length = w) (hb : (k + 1) * bytes ≤ 140737488355328) (h : ∀ x' H', OwnS d H' w cty x' (k + 1) (cells ++ cs) → K x' H' = r) :
  ((PR n β).call te (.fn g [] []) args (H ++ X0) fun t G => (fillA z [(0, w, t)]).bind fun ct => pNewSl 1 w ct true G fun y G => pApp w bytes x y G K) = r := by
 obtain ⟨i, hi, rfl⟩ := hte
 rw [PR_call hh hv ht, instT_agg, hi, Option.getD_some]
 simp only
 have hlen := instL_len (ti := ti0) (tp := E0.tp) (H ++ X0).length i.cty cs
 have hleaf := instL_leaf (ti := ti0) (tp := E0.tp) cs (H ++ X0).length i.cty hfl
 have hf : fillA z [(0, w, .agg (instL ti0 E0.tp (H ++ X0).length i.cty cs).1)] = some (instL ti0 E0.tp (H ++ X0).length i.cty cs).1 := by
  have hc : cellsA (.agg (instL ti0 E0.tp (H ++ X0).length i.cty cs).1) = some (instL ti0 E0.tp (H ++ X0).length i.cty cs).1 := by
   show (if _ then _ else none) = _
   rw [if_pos hleaf]
  have hs : splice z 0 (instL ti0 E0.tp (H ++ X0).length i.cty cs).1 = (instL ti0 E0.tp (H ++ X0).length i.cty cs).1 := by
   unfold splice
   rw [List.take_zero, List.nil_append, List.drop_of_length_le (by rw [hlen, hw, hz]; omega), List.append_nil]
  show ((cellsA (.agg _)).bind fun cs => if cs.length = w then (if 0 + w ≤ z.length then fillA (splice z 0 cs) [] else none) else none) = _
  rw [hc, Option.bind_some, if_pos (by rw [hlen, hw]), if_pos (by omega), hs]
  rfl
 rw [hf, Option.bind_some]
 have key := app_one (H := H) (X := X0 ++ (instL ti0 E0.tp (H ++ X0).length i.cty cs).2) (bytes := bytes) (er := (instL ti0 E0.tp (H ++ X0).length i.cty cs).1) (ec := cs) (eids := List.range' (H ++ X0).length (instL ti0 E0.tp (H ++ X0).length i.cty cs).2.length) (K := K) (r := r) hx (by rw [hlen, hw]) hleaf (by
   have := own_new (d := d) (H := H ++ X0) hok
   rwa [List.append_assoc] at this) List.nodup_range' (fun j hj => by
   rw [List.mem_range'_1] at hj
   have := hj.1
   simp at this
   omega) hb h
 rw [← List.append_assoc] at key
 exact key
theorem mk_take (l : List MsgV) (hs : ∀ x ∈ l, x.fBody.size ≤ 1048576) : True := trivial
theorem l12_loop (n : Nat) (hn : 1048576 < n) (l : List MsgV) (hl : l.length ≤ 1048576) (hs : ∀ x ∈ l, x.fBody.size ≤ 1048576) : ∀ (t pre : List MsgV) (m : Nat) (x : AV) (H : Heap), l = pre ++ t → t.length < m → OwnS 7 H 4 ctyMsg x pre.length (pre.map encMsg).flatten →
  f151_l0 (PR (n + 2) AV) (n + 2) (fun x H => ownTree ti0 E0.tp 31 H x) m (rowsC encMsg l) x (.sc (.int .i64 pre.length)) H = some (rowsC encMsg l)
 | [], pre, m + 1, x, H, he, hm, hx => by
  rw [List.append_nil] at he
  subst he
  rw [f151_l0]
  simp only [PR_len, PR_bin, PR_cond]
  rw [len_ro, lss_nat, cond_b, if_neg (by simp)]
  obtain ⟨ids, ho, hno⟩ := own_res (d := 7) (tyS := 31) tyMsgS hx
  rw [ownTree, ho, Option.bind_some, if_pos hno]
 | y :: t, pre, m + 1, x, H, he, hm, hx => by
  have hlt : pre.length < l.length := by rw [he]; simp
  have hy : y ∈ l := by rw [he]; simp
  rw [f151_l0]
  simp only [PR_len, PR_bin, PR_cond, PR_iadr, PR_load, PR_fill, PR_newSl, PR_app]
  rw [len_ro, lss_nat, cond_b, if_pos (by simpa using hlt)]
  have hel := fun k => el_ro (β := AV) lenMsg (by decide) pre y t k
  rw [← he] at hel
  rw [hel, ld_rp 4 _ _ _ _ (lenMsg y)]
  have hst := fun K h => copy_step (β := AV) (n := n + 2) (X0 := []) (bytes := 56) (z := zzMsg) (K := K) (r := some (rowsC encMsg l)) hx rfl (vcons (Vw_agg _ (flMsg y)) vnil) (l12MsgF (n + 1) y (hs y hy)) tyMsg (okWMsg 5 y) (flMsg y) (lenMsg y) rfl (by omega) h
  simp only [List.append_nil] at hst
  refine hst _ fun x' H' hx' => ?_
  rw [inc_nat _ _ (by omega)]
  have ih := l12_loop n hn l hl hs t (pre ++ [y]) m x' H' (by rw [he]; simp) (by simpa using hm) (by
   rw [List.length_append, List.length_singleton, List.map_append, List.flatten_append]
   simpa using hx')
  rw [List.length_append, List.length_singleton] at ih
  exact ih
theorem l12CopyF (n : Nat) (hn : 1048576 < n) (l : List MsgV) (hl : l.length ≤ 1048576) (hs : ∀ x ∈ l, x.fBody.size ≤ 1048576) : tree E0 (n + 3) 31 151 [rowsC encMsg l] = some (rowsC encMsg l) := by
 rw [tree_def, f151_eq, f151]
 exact l12_loop n hn l hl hs l [] (n + 2) .nl [] rfl (by omega) (OwnS.nil _ _ _ _)
theorem copyMsgs_loop (n : Nat) (hn : 1048576 < n) (l : List MsgV) (hl : l.length ≤ 1048576) (hs : ∀ x ∈ l, x.fBody.size ≤ 1048576) : ∀ (t pre : List MsgV) (m : Nat) (x : AV) (H : Heap), l = pre ++ t → t.length < m → OwnS 7 H 4 ctyMsg x pre.length (pre.map encMsg).flatten →
  f154_l0 (PR (n + 2) AV) (n + 2) (fun x H => ownTree ti0 E0.tp 31 H x) m x (rowsC encMsg l) (.sc (.int .i64 l.length)) (.sc (.int .i64 pre.length)) H = some (rowsC encMsg l)
 | [], pre, m + 1, x, H, he, hm, hx => by
  rw [List.append_nil] at he
  subst he
  rw [f154_l0]
  simp only [PR_len, PR_bin, PR_cond]
  rw [lss_nat, cond_b, if_neg (by simp)]
  obtain ⟨ids, ho, hno⟩ := own_res (d := 7) (tyS := 31) tyMsgS hx
  rw [ownTree, ho, Option.bind_some, if_pos hno]
 | y :: t, pre, m + 1, x, H, he, hm, hx => by
  have hlt : pre.length < l.length := by rw [he]; simp
  have hy : y ∈ l := by rw [he]; simp
  rw [f154_l0]
  simp only [PR_len, PR_bin, PR_cond, PR_iadr, PR_load, PR_fill, PR_newSl, PR_app, PR_new, PR_store]
  rw [lss_nat, cond_b, if_pos (by simpa using hlt)]
  have hel := fun k => el_ro (β := AV) lenMsg (by decide) pre y t k
  rw [← he] at hel
  rw [hel, ld_rp 4 _ _ _ _ (lenMsg y)]
  refine lw_put rfl (lenMsg _) (fl_leaf (flMsg _)) fun i hi => ?_
  refine lw_ld hi (lenMsg _) ?_
  refine copy_step (β := AV) (n := n + 2) (X0 := [⟨encMsg y, true, true⟩]) (bytes := 56) (z := zzMsg) (r := some (rowsC encMsg l)) hx rfl (vcons (Vw_agg _ (flMsg y)) vnil) (copyMsgF n (by omega) y (hs y hy)) tyMsg (okWMsg 5 y) (flMsg y) (lenMsg y) rfl (by omega) fun x' H' hx' => ?_
  rw [inc_nat _ _ (by omega)]
  have ih := copyMsgs_loop n hn l hl hs t (pre ++ [y]) m x' H' (by rw [he]; simp) (by simpa using hm) (by
   rw [List.length_append, List.length_singleton, List.map_append, List.flatten_append]
   simpa using hx')
  rw [List.length_append, List.length_singleton] at ih
  exact ih
theorem copyMsgsF (n : Nat) (hn : 1048576 < n) (l : List MsgV) (hl : l.length ≤ 1048576) (hs : ∀ x ∈ l, x.fBody.size ≤ 1048576) : tree E0 (n + 3) 31 154 [rowsC encMsg l] = some (rowsC encMsg l) := by
 rw [tree_def, f154_eq, f154]
 simp only [PR_len]
 refine w_len ?_
 exact copyMsgs_loop n hn l hl hs l [] (n + 2) .nl [] rfl (by omega) (OwnS.nil _ _ _ _)
end Go.Proofs.YtdameggfgnpehaaGreatDoor.Abs
set_option linter.unusedVariables false
set_option linter.unusedSimpArgs false
namespace Go.Proofs.YtdameggfgnpehaaGreatDoor.Abs
open Go
def OwnSI (d : Nat) (H : Heap) (w : Nat) (cty : List Nat) (x : AV) (k : Nat) (cells : List AV) (ids : List Nat) : Prop :=
 (x = .nl ∧ k = 0 ∧ cells = [] ∧ ids = []) ∨ ∃ id raw is, ids = id :: is ∧ x = .sl id 0 k w ∧ H[id]? = some ⟨raw, true, true⟩ ∧ raw.length = k * w ∧ OwnC d H (List.replicate k cty).flatten raw cells is ∧ (id :: is).Nodup
theorem OwnSI.nil (d : Nat) (H : Heap) (w : Nat) (cty : List Nat) : OwnSI d H w cty .nl 0 [] [] := .inl ⟨rfl, rfl, rfl, rfl⟩
theorem OwnSI.lt {d : Nat} {H : Heap} {w : Nat} {cty : List Nat} {x : AV} {k : Nat} {cells : List AV} {ids : List Nat} (h : OwnSI d H w cty x k cells ids) : ∀ i ∈ ids, i < H.length := by
 rcases h with ⟨_, _, _, rfl⟩ | ⟨id, raw, is, rfl, _, h2, _, h4, _⟩
 ·intro i hi
  cases hi
 ·intro i hi
  rcases List.mem_cons.1 hi with rfl | hi
  ·exact (List.getElem?_eq_some_iff.1 h2).1
  ·exact h4.lt i hi
theorem OwnSI.nodup {d : Nat} {H : Heap} {w : Nat} {cty : List Nat} {x : AV} {k : Nat} {cells : List AV} {ids : List Nat} (h : OwnSI d H w cty x k cells ids) : ids.Nodup := by
 rcases h with ⟨_, _, _, rfl⟩ | ⟨id, raw, is, rfl, _, h2, _, h4, h5⟩
 ·exact List.nodup_nil
 ·exact h5
theorem OwnSI.frame {d : Nat} {H H' : Heap} {w : Nat} {cty : List Nat} {x : AV} {k : Nat} {cells : List AV} {ids : List Nat} (h : OwnSI d H w cty x k cells ids) (hs : ∀ i ∈ ids, H'[i]? = H[i]?) : OwnSI d H' w cty x k cells ids := by
 rcases h with h | ⟨id, raw, is, rfl, h1, h2, h3, h4, h5⟩
 ·exact .inl h
 ·exact .inr ⟨id, raw, is, rfl, h1, by rw [hs id List.mem_cons_self]; exact h2, h3, h4.frame fun i hi => hs i (List.mem_cons_of_mem _ hi), h5⟩
theorem OwnSI.grow {d : Nat} {H : Heap} {w : Nat} {cty : List Nat} {x : AV} {k : Nat} {cells : List AV} {ids : List Nat} (h : OwnSI d H w cty x k cells ids) (X : List Blk) : OwnSI d (H ++ X) w cty x k cells ids :=
 h.frame fun i hi => List.getElem?_append_left (h.lt i hi)
theorem OwnSI.res {H : Heap} {d w tyS k : Nat} {cty : List Nat} {x : AV} {cells : List AV} {ids : List Nat} (h : OwnSI d H w cty x k cells ids) (hty : ∃ i j, ti0 tyS = some i ∧ ti0 i.elem = some j ∧ j.size = w ∧ j.cty = cty) : ownT ti0 E0.tp H (d + 1) tyS x = some (.ro k cells, ids) := by
 rcases h with ⟨rfl, rfl, rfl, rfl⟩ | ⟨id, raw, is, rfl, rfl, h2, h3, h4, h5⟩
 ·rfl
 ·obtain ⟨i, j, e1, e2, rfl, rfl⟩ := hty
  rw [ownT_sl]
  have ha : isApp H id = true := by simp only [isApp, h2]
  have hr : rdCells H id 0 (k * j.size) = some raw := by
   simp only [rdCells, h2, if_true, Nat.zero_add, h3, Nat.le_refl, List.drop_zero]
   rw [← h3, List.take_length]
  have h4' : ownL (ownT ti0 E0.tp H d) (List.replicate k j.cty).flatten raw = some (cells, is) := h4
  simp only [e1, e2, Option.bind_some, if_true, ha, hr, h4']
variable {β : Type} {n : Nat} {r : Option β}
theorem app_oneI {d : Nat} {H X : Heap} {w bytes : Nat} {cty : List Nat} {x : AV} {k : Nat} {cells er ec : List AV} {ids eids : List Nat} {K : AV → Heap → Option β} (hx : OwnSI d H w cty x k cells ids) (hw : er.length = w) (hl : er.all isLeaf = true)
  (he : OwnC d (H ++ X) cty er ec eids) (hn : eids.Nodup) (hge : ∀ i ∈ eids, H.length ≤ i) (hb : (k + 1) * bytes ≤ 140737488355328)
  (h : ∀ x' H' ids', OwnSI d H' w cty x' (k + 1) (cells ++ ec) ids' → (∀ i ∈ ids', i ∈ ids ∨ H.length ≤ i) → (∀ i, i < H.length → i ∉ ids → H'[i]? = H[i]?) → H.length ≤ H'.length → K x' H' = r) :
  pNewSl 1 w er true (H ++ X) (fun y G => pApp w bytes x y G K) = r := by
 have hy : ∀ G : Heap, content (G ++ [⟨er, true, true⟩]) w (.sl G.length 0 1 w) = some er := by
  intro G
  simp only [content, if_true, Nat.one_mul, rdCells, get_at G _ [], Nat.zero_add, hw, Nat.le_refl, List.drop_zero]
  rw [← hw, List.take_length]
 rcases hx with ⟨rfl, rfl, rfl, rfl⟩ | ⟨id, raw, is, rfl, rfl, h2, h3, h4, h5⟩
 ·simp only [pNewSl, pApp, lenA, Option.bind_some, hy]
  rw [show content (H ++ X ++ [⟨er, true, true⟩]) w .nl = some [] from rfl]
  simp only [Option.bind_some, kill]
  rw [if_pos hb, if_pos hl]
  refine h _ _ (_ :: eids) (.inr ⟨_, er, eids, rfl, rfl, ?_, by simp [hw], ?_, ?_⟩) (fun i hi => .inr ?_) (fun i hi _ => ?_) (by simp)
  ·rw [List.getElem?_append_right (Nat.le_refl _), Nat.sub_self]
   rfl
  ·simp only [Nat.zero_add, List.replicate_one, List.flatten_cons, List.flatten_nil, List.append_nil, List.nil_append]
   exact (he.grow _).grow _
  ·rw [List.nodup_cons]
   refine ⟨fun hm => ?_, hn⟩
   have := he.lt _ hm
   simp at this
   omega
  ·rcases List.mem_cons.1 hi with rfl | hi
   ·simp [Nat.add_assoc]
   ·exact hge i hi
  ·rw [List.append_assoc, List.append_assoc, List.getElem?_append_left hi]
 ·have hid : id < H.length := (List.getElem?_eq_some_iff.1 h2).1
  have hg : (H ++ X ++ [(⟨er, true, true⟩ : Blk)])[id]? = some ⟨raw, true, true⟩ := by
   rw [List.append_assoc, List.getElem?_append_left hid]
   exact h2
  have hcx : content (H ++ X ++ [⟨er, true, true⟩]) w (.sl id 0 k w) = some raw := by
   simp only [content, if_true, rdCells, hg, Nat.zero_add, h3, Nat.le_refl, List.drop_zero]
   rw [← h3, List.take_length]
  simp only [pNewSl, pApp, lenA, Option.bind_some, hy, hcx, kill, hg, if_true]
  rw [if_pos hb, if_pos hl]
  have hn5 := List.nodup_cons.1 h5
  have hne : ∀ i ∈ is, i ≠ id := fun i hi e => hn5.1 (e ▸ hi)
  have hne2 : ∀ i ∈ eids, i ≠ id := fun i hi e => by
   have := hge i hi
   omega
  refine h _ _ (_ :: (is ++ eids)) (.inr ⟨_, raw ++ er, is ++ eids, rfl, rfl, ?_, by simp [h3, hw, Nat.succ_mul], ?_, ?_⟩) (fun i hi => ?_) (fun i hi hni => ?_) (by simp; omega)
  ·rw [List.getElem?_append_right (Nat.le_refl _), Nat.sub_self]
   rfl
  ·have e : (List.replicate (k + 1) cty).flatten = (List.replicate k cty).flatten ++ cty := by
    rw [List.replicate_succ', List.flatten_append]
    simp
   rw [e]
   refine OwnC.append ?_ ?_
   ·refine OwnC.grow (OwnC.frame (H := H ++ X ++ [⟨er, true, true⟩]) ((h4.grow X).grow _) fun i hi => ?_) _
    rw [List.getElem?_set_ne (fun e => hne i hi e.symm)]
   ·refine OwnC.grow (OwnC.frame (H := H ++ X ++ [⟨er, true, true⟩]) (he.grow _) fun i hi => ?_) _
    rw [List.getElem?_set_ne (fun e => hne2 i hi e.symm)]
  ·rw [List.nodup_cons]
   refine ⟨fun hm => ?_, ?_⟩
   ·rcases List.mem_append.1 hm with hm | hm
    ·have := h4.lt _ hm
     simp at this
     omega
    ·have := he.lt _ hm
     simp at this
     omega
   ·rw [List.nodup_append]
    refine ⟨hn5.2, hn, fun a ha b hb e => ?_⟩
    have h1 := h4.lt a ha
    have h2 := hge b hb
    omega
  ·rcases List.mem_cons.1 hi with rfl | hi
   ·right
    simp [Nat.add_assoc]
   ·rcases List.mem_append.1 hi with hi | hi
    ·exact .inl (List.mem_cons_of_mem _ hi)
    ·exact .inr (hge i hi)
  ·have : i ≠ id := fun e => hni (e ▸ List.mem_cons_self)
   rw [List.getElem?_append_left (by simp; omega), List.getElem?_set_ne (fun e => this e.symm), List.append_assoc, List.getElem?_append_left hi]
structure Rec (d : Nat) (H : Heap) (io : Nat) (cty : List Nat) (raw cells : List AV) (ids : List Nat) : Prop where
 blk : H[io]? = some ⟨raw, true, true⟩
 own : OwnC d H cty raw cells ids
 nd : ids.Nodup
 out : io ∉ ids
theorem fill_all {w : Nat} {z ys : List AV} (hz : z.length = w) (hy : ys.length = w) (hl : ys.all isLeaf = true) : fillA z [(0, w, .agg ys)] = some ys := by
 have hc : cellsA (.agg ys) = some ys := by
  show (if ys.all isLeaf then some ys else none) = _
  rw [if_pos hl]
 have hs : splice z 0 ys = ys := by
  unfold splice
  rw [List.take_zero, List.nil_append, List.drop_of_length_le (by rw [hy, hz]; omega), List.append_nil]
 show ((cellsA (.agg ys)).bind fun cs => if cs.length = w then (if 0 + w ≤ z.length then fillA (splice z 0 cs) [] else none) else none) = _
 rw [hc, Option.bind_some, if_pos hy, if_pos (by omega), hs]
 rfl
end Go.Proofs.YtdameggfgnpehaaGreatDoor.Abs
set_option linter.unusedVariables false
set_option linter.unusedSimpArgs false
set_option maxRecDepth 100000
namespace Go.Proofs.YtdameggfgnpehaaGreatDoor.Abs
open Go
variable {β : Type} {n : Nat} {r : Option β}
theorem w_el {α : Type} {w : Nat} {enc : α → List AV} {l pre t : List α} {x : α} {K : AV → Option β} (hw : ∀ x, (enc x).length = w) (h0 : 0 < w) (hl : l = pre ++ x :: t) (h : K (.rp (enc x ++ (t.map enc).flatten)) = r) : pIadr w (rowsC enc l) (.sc (.int .i64 (pre.length : Int))) (fun t => K t) = r := by
 subst hl
 exact (el_ro (β := β) hw h0 pre x t (fun t => K t)).trans h
theorem inst_b (N : Nat) (s : ByteArray) : instT ti0 E0.tp N 43 (bytesC s) = (.sl N 0 s.size 1, [⟨bytesAV s, true, true⟩]) := by
 obtain ⟨i, j, h1, h2, h3, h4⟩ := tyByteS
 show instT ti0 E0.tp N 43 (.ro s.size (bytesAV s)) = _
 simp only [instT, h1, Option.bind_some, h2, Option.getD_some, h3, bytesAV_eq, instL_sc]
theorem inst_msg (N : Nat) (m : MsgV) : instL ti0 E0.tp N ctyMsg (encMsg m) = ([.sc (.string m.fTopic), .sl N 0 m.fBody.size 1, .sc (.int .i64 m.fQos), .sc (.bool m.fRetain)], [⟨bytesAV m.fBody, true, true⟩]) := by
 have h := inst_b N m.fBody
 show instL ti0 E0.tp N [9, 43, 3, 4] [.sc (.string m.fTopic), bytesC m.fBody, .sc (.int .i64 m.fQos), .sc (.bool m.fRetain)] = _
 simp only [instL, List.headD_cons, List.tail_cons, instT_sc, List.length_nil, Nat.add_zero, h, List.nil_append, List.append_nil]
theorem inst_flight (N : Nat) (f : FlightV) : instL ti0 E0.tp N ctyFlight (encFlight f) = ([.sc (.int .i64 f.fId), .sc (.string f.fM.fTopic), .sl N 0 f.fM.fBody.size 1, .sc (.int .i64 f.fM.fQos), .sc (.bool f.fM.fRetain), .sc (.int .i64 f.fSt)], [⟨bytesAV f.fM.fBody, true, true⟩]) := by
 have h := inst_b N f.fM.fBody
 show instL ti0 E0.tp N [3, 9, 43, 3, 4, 3] [.sc (.int .i64 f.fId), .sc (.string f.fM.fTopic), bytesC f.fM.fBody, .sc (.int .i64 f.fM.fQos), .sc (.bool f.fM.fRetain), .sc (.int .i64 f.fSt)] = _
 simp only [instL, List.headD_cons, List.tail_cons, instT_sc, List.length_nil, Nat.add_zero, h, List.nil_append, List.append_nil]
theorem flight_step {te g k : Nat} {H X0 : Heap} {x : AV} {cells : List AV} {ids : List Nat} {args : List AV} {f : FlightV} {K : AV → Heap → Option β} (hx : OwnSI 6 H 6 ctyFlight x k cells ids) (hh : plainF g = false) (hv : args.mapM (viewV (H ++ X0) 8) = some [.agg (encMsg f.fM)]) (ht : tree E0 n te g [.agg (encMsg f.fM)] = some (.agg (encMsg f.fM)))
  (hte : ∃ i, ti0 te = some i ∧ i.cty = ctyMsg) (hb : (k + 1) * 72 ≤ 140737488355328)
  (h : ∀ x' H' ids', OwnSI 6 H' 6 ctyFlight x' (k + 1) (cells ++ encFlight f) ids' → (∀ i ∈ ids', i ∈ ids ∨ H.length ≤ i) → (∀ i, i < H.length → i ∉ ids → H'[i]? = H[i]?) → H.length ≤ H'.length → K x' H' = r) :
  ((PR n β).call te (.fn g [] []) args (H ++ X0) fun t G => (fillA zzFlight [(0, 1, .sc (.int .i64 f.fId)), (1, 4, t), (5, 1, .sc (.int .i64 f.fSt))]).bind fun c => (fillA zzFlight [(0, 6, .agg c)]).bind fun ct => pNewSl 1 6 ct true G fun y G => pApp 6 72 x y G K) = r := by
 obtain ⟨i, hi, hc⟩ := hte
 rw [PR_call hh hv ht, instT_agg, hi, Option.getD_some, hc, inst_msg]
 simp only
 have hf : fillA zzFlight [(0, 1, .sc (.int .i64 f.fId)), (1, 4, .agg [.sc (.string f.fM.fTopic), .sl (H ++ X0).length 0 f.fM.fBody.size 1, .sc (.int .i64 f.fM.fQos), .sc (.bool f.fM.fRetain)]), (5, 1, .sc (.int .i64 f.fSt))] = some [.sc (.int .i64 f.fId), .sc (.string f.fM.fTopic), .sl (H ++ X0).length 0 f.fM.fBody.size 1, .sc (.int .i64 f.fM.fQos), .sc (.bool f.fM.fRetain), .sc (.int .i64 f.fSt)] := rfl
 rw [hf, Option.bind_some, fill_all (w := 6) rfl rfl rfl, Option.bind_some]
 have key := app_oneI (H := H) (X := X0 ++ [⟨bytesAV f.fM.fBody, true, true⟩]) (bytes := 72) (er := (instL ti0 E0.tp (H ++ X0).length ctyFlight (encFlight f)).1) (ec := encFlight f) (eids := List.range' (H ++ X0).length (instL ti0 E0.tp (H ++ X0).length ctyFlight (encFlight f)).2.length) (K := K) (r := r) hx (by rw [inst_flight]; rfl) (by rw [inst_flight]; rfl) (by
   have := own_new (d := 6) (H := H ++ X0) (okWFlight 4 f)
   rw [inst_flight] at this ⊢
   rwa [List.append_assoc] at this) List.nodup_range' (fun j hj => by
   rw [List.mem_range'_1] at hj
   have := hj.1
   simp at this
   omega) hb h
 rw [inst_flight, ← List.append_assoc] at key
 exact key
structure OutI (H : Heap) (io i2 i1 : Nat) (o : OutV) (x q : AV) (k : Nat) (cells : List AV) (ids qids : List Nat) : Prop where
 ho : H[io]? = some ⟨[.sc (.int .i64 o.fLast), x, q], true, true⟩
 hs : OwnSI 6 H 6 ctyFlight x k cells ids
 hq : ownT ti0 E0.tp H 7 31 q = some (rowsC encMsg o.fQ, qids)
 qn : qids.Nodup
 hz : ∃ z2, H[i2]? = some ⟨z2, true, true⟩ ∧ z2.length = 3
 src : H[i1]? = some ⟨encOut o, true, true⟩
 ne : io ≠ i2
 ne1 : i1 ≠ io
 ne2 : i1 ≠ i2
 o1 : io ∉ ids
 o2 : io ∉ qids
 z1 : i2 ∉ ids
 z2 : i2 ∉ qids
 s1 : i1 ∉ ids
 dj : ∀ i ∈ qids, i ∉ ids
theorem OutI.lt {H : Heap} {io i2 i1 : Nat} {o : OutV} {x q : AV} {k : Nat} {cells : List AV} {ids qids : List Nat} (h : OutI H io i2 i1 o x q k cells ids qids) : io < H.length ∧ i2 < H.length ∧ i1 < H.length ∧ ∀ i ∈ qids, i < H.length := by
 obtain ⟨z2, hz, _⟩ := h.hz
 exact ⟨(List.getElem?_eq_some_iff.1 h.ho).1, (List.getElem?_eq_some_iff.1 hz).1, (List.getElem?_eq_some_iff.1 h.src).1, own_lt 7 _ _ _ h.hq⟩
theorem OutI.put {H H' : Heap} {io i2 i1 : Nat} {o : OutV} {x x' q : AV} {k : Nat} {cells ec : List AV} {ids ids' qids : List Nat} {K : Heap → Option β} (h : OutI H io i2 i1 o x q k cells ids qids)
  (h1 : OwnSI 6 H' 6 ctyFlight x' (k + 1) (cells ++ ec) ids') (h2 : ∀ i ∈ ids', i ∈ ids ∨ H.length ≤ i) (h3 : ∀ i, i < H.length → i ∉ ids → H'[i]? = H[i]?) (hk : ∀ H'', OutI H'' io i2 i1 o x' q (k + 1) (cells ++ ec) ids' qids → K H'' = r) :
  pStore 1 (.ptr io (0 + 1)) x' H' K = r := by
 obtain ⟨l1, l2, l3, l4⟩ := h.lt
 have hlf : cellsA x' = some [x'] := by
  rcases h1 with ⟨_, h0, _⟩ | ⟨id, raw, is, _, rfl, _⟩
  ·omega
  ·rfl
 have ho : H'[io]? = some ⟨[.sc (.int .i64 o.fLast), x, q], true, true⟩ := by rw [h3 io l1 h.o1]; exact h.ho
 have hio : io < H'.length := (List.getElem?_eq_some_iff.1 ho).1
 rw [st_at 1 io (0 + 1) x' _ [x'] H' K ho hlf rfl (Nat.le_of_ble_eq_true rfl) rfl]
 have hni : io ∉ ids' := fun hm => by
  rcases h2 io hm with h' | h'
  ·exact h.o1 h'
  ·omega
 refine hk _ ⟨?_, ?_, ?_, h.qn, ?_, ?_, h.ne, h.ne1, h.ne2, hni, h.o2, ?_, h.z2, ?_, ?_⟩
 ·rw [List.getElem?_set_self hio]
  rfl
 ·refine h1.frame fun i hi => ?_
  rw [List.getElem?_set_ne (fun (e : io = i) => hni (e ▸ hi))]
 ·refine own_frame 7 _ _ _ h.hq fun i hi => ?_
  rw [List.getElem?_set_ne (fun (e : io = i) => h.o2 (e ▸ hi)), h3 i (l4 i hi) (h.dj i hi)]
 ·obtain ⟨z2, hz, hl⟩ := h.hz
  exact ⟨z2, by rw [List.getElem?_set_ne h.ne, h3 i2 l2 h.z1]; exact hz, hl⟩
 ·rw [List.getElem?_set_ne (fun e => h.ne1 e.symm), h3 i1 l3 h.s1]
  exact h.src
 ·intro hm
  rcases h2 i2 hm with h' | h'
  ·exact h.z1 h'
  ·omega
 ·intro hm
  rcases h2 i1 hm with h' | h'
  ·exact h.s1 h'
  ·omega
 ·intro i hi hm
  rcases h2 i hm with h' | h'
  ·exact h.dj i hi h'
  ·have := l4 i hi
   omega
theorem OutI.fin {H : Heap} {io i2 i1 : Nat} {o : OutV} {x q : AV} {ids qids : List Nat} (h : OutI H io i2 i1 o x q o.fFl.length (o.fFl.map encFlight).flatten ids qids) :
  (pLoad true 3 (.ptr io 0) H fun t => pStore 3 (.ptr i2 0) t H fun H => pLoad true 3 (.ptr i2 0) H fun r0 => ownTree ti0 E0.tp 33 H r0) = some (.agg (encOut o)) := by
 obtain ⟨l1, l2, l3, l4⟩ := h.lt
 obtain ⟨z2, hz, hzl⟩ := h.hz
 have hx : isLeaf x = true := by
  rcases h.hs with ⟨rfl, _⟩ | ⟨id, raw, is, _, rfl, _⟩ <;> rfl
 have hq : isLeaf q = true := by
  have := h.hq
  cases q with
  | sc v => cases this
  | nl => rfl
  | sl => rfl
  | agg cs =>
   rw [ownT_agg] at this
   simp only [Option.bind_eq_some_iff] at this
   obtain ⟨_, _, _, _, h3⟩ := this
   cases h3
  | tup cs =>
   rw [ownT_tup] at this
   simp only [Option.bind_eq_some_iff] at this
   obtain ⟨_, _, _, _, h3⟩ := this
   cases h3
  | _ => simp [ownT] at this
 refine w_ldA (ds := [.sc (.int .i64 o.fLast), x, q]) h.ho (Nat.le_of_ble_eq_true rfl) rfl ?_
 have hc : cellsA (.agg [.sc (.int .i64 o.fLast), x, q]) = some [.sc (.int .i64 o.fLast), x, q] := by
  show (if (true && (isLeaf x && (isLeaf q && true))) = true then _ else none) = _
  rw [hx, hq]
  rfl
 rw [st_at 3 i2 0 _ ⟨z2, true, true⟩ [.sc (.int .i64 o.fLast), x, q] H _ hz hc rfl (by show 0 + 3 ≤ z2.length; omega) rfl]
 have hs : splice z2 0 [.sc (.int .i64 o.fLast), x, q] = [.sc (.int .i64 o.fLast), x, q] := by
  unfold splice
  rw [List.take_zero, List.nil_append, List.drop_of_length_le (by rw [hzl]; exact Nat.le_refl _), List.append_nil]
 simp only [hs]
 refine w_ldA (ds := [.sc (.int .i64 o.fLast), x, q]) (cs := [.sc (.int .i64 o.fLast), x, q]) (by rw [List.getElem?_set_self l2]) (Nat.le_of_ble_eq_true rfl) rfl ?_
 have e1 := (h.hs.frame (H' := H.set i2 ⟨[.sc (.int .i64 o.fLast), x, q], true, true⟩) fun i hi => by rw [List.getElem?_set_ne (fun (e : i2 = i) => h.z1 (e ▸ hi))]).res tyFlightS
 have e2 := own_frame (H' := H.set i2 ⟨[.sc (.int .i64 o.fLast), x, q], true, true⟩) 7 _ _ _ h.hq fun i hi => by rw [List.getElem?_set_ne (fun (e : i2 = i) => h.z2 (e ▸ hi))]
 obtain ⟨i, hi, hcy⟩ := tyOut
 rw [ownTree, ownT_agg, hi, Option.bind_some, hcy]
 simp only [ctyOut, ownL, ownT_sc, e1, e2, Option.bind_some, List.nil_append, List.append_nil]
 rw [if_pos]
 ·rfl
 ·rw [List.nodup_append]
  exact ⟨h.hs.nodup, h.qn, fun a ha b hb e => h.dj b hb (e ▸ ha)⟩
def smOutC (o : OutV) : Prop := (o.fFl.length ≤ 1048576 ∧ ∀ x ∈ o.fFl, x.fM.fBody.size ≤ 1048576) ∧ (o.fQ.length ≤ 1048576 ∧ ∀ x ∈ o.fQ, x.fBody.size ≤ 1048576)
theorem l13_loop (n : Nat) (hn : 1048576 < n) (o : OutV) (hs : smOutC o) (io i2 i1 : Nat) (q : AV) (qids : List Nat) : ∀ (t pre : List FlightV) (m : Nat) (x : AV) (H : Heap) (ids : List Nat), o.fFl = pre ++ t → t.length < m → OutI H io i2 i1 o x q pre.length (pre.map encFlight).flatten ids qids →
  f104_l0 (PR (n + 3) AV) (n + 3) (fun x H => ownTree ti0 E0.tp 33 H x) m (.ptr i1 0) (.ptr i2 0) (.ptr io 0) (.sc (.int .i64 pre.length)) H = some (.agg (encOut o))
 | [], pre, m + 1, x, H, ids, he, hm, hi => by
  rw [List.append_nil] at he
  show (PR (n + 3) AV).fadr _ _ _ = _
  simp only [PR_fadr, PR_load, PR_len, PR_bin, PR_cond, PR_store]
  refine w_fadr ?_
  refine w_ld (c := rowsC encFlight o.fFl) hi.src (Nat.le_of_ble_eq_true rfl) rfl ?_
  refine w_len ?_
  rw [lss_nat, cond_b, if_neg (by rw [he]; simp)]
  subst he
  exact hi.fin
 | y :: t, pre, m + 1, x, H, ids, he, hm, hi => by
  have hlt : pre.length < o.fFl.length := by rw [he]; simp
  have hy : y.fM.fBody.size ≤ 1048576 := hs.1.2 y (by rw [he]; simp)
  have hlen := hs.1.1
  show (PR (n + 3) AV).fadr _ _ _ = _
  simp only [PR_fadr, PR_load, PR_len, PR_bin, PR_cond, PR_store, PR_iadr, PR_fill, PR_newSl, PR_app]
  refine w_fadr ?_
  refine w_ld (c := rowsC encFlight o.fFl) hi.src (Nat.le_of_ble_eq_true rfl) rfl ?_
  refine w_len ?_
  rw [lss_nat, cond_b, if_pos (by simpa using hlt)]
  refine w_fadr ?_
  refine w_ld (c := x) hi.ho (Nat.le_of_ble_eq_true rfl) rfl ?_
  refine w_fadr ?_
  refine w_ld (c := rowsC encFlight o.fFl) hi.src (Nat.le_of_ble_eq_true rfl) rfl ?_
  refine w_el lenFlight (by decide) he ?_
  refine w_fadr_rp ?_
  refine w_ld_rp (c := .sc (.int .i64 y.fId)) rfl ?_
  refine w_fadr ?_
  refine w_ld (c := rowsC encFlight o.fFl) hi.src (Nat.le_of_ble_eq_true rfl) rfl ?_
  refine w_el lenFlight (by decide) he ?_
  refine w_fadr_rp ?_
  refine w_ldA_rp (ds := encMsg y.fM) (Nat.le_of_ble_eq_true rfl) rfl ?_
  refine w_fadr ?_
  refine w_ld (c := rowsC encFlight o.fFl) hi.src (Nat.le_of_ble_eq_true rfl) rfl ?_
  refine w_el lenFlight (by decide) he ?_
  refine w_fadr_rp ?_
  refine w_ld_rp (c := .sc (.int .i64 y.fSt)) rfl ?_
  have hst := fun K h => flight_step (β := AV) (n := n + 3) (X0 := []) (f := y) (K := K) (r := some (.agg (encOut o))) hi.hs rfl (vcons (Vw_agg _ (flMsg _)) vnil) (l12MsgF (n + 2) y.fM hy) tyMsg (by omega) h
  simp only [List.append_nil] at hst
  refine hst _ fun x' H' ids' h1 h2 h3 h4 => ?_
  refine w_fadr ?_
  refine hi.put h1 h2 h3 fun H'' hi' => ?_
  rw [inc_nat _ _ (by omega)]
  have ih := l13_loop n hn o hs io i2 i1 q qids t (pre ++ [y]) m x' H'' ids' (by rw [he]; simp) (by simpa using hm) (by
   rw [List.length_append, List.length_singleton, List.map_append, List.flatten_append]
   simpa using hi')
  rw [List.length_append, List.length_singleton] at ih
  exact ih
theorem copyOut_loop (n : Nat) (hn : 1048576 < n) (o : OutV) (hs : smOutC o) (io i2 i1 : Nat) (q : AV) (qids : List Nat) : ∀ (t pre : List FlightV) (m : Nat) (x : AV) (H : Heap) (ids : List Nat), o.fFl = pre ++ t → t.length < m → OutI H io i2 i1 o x q pre.length (pre.map encFlight).flatten ids qids →
  f108_l0 (PR (n + 3) AV) (n + 3) (fun x H => ownTree ti0 E0.tp 33 H x) m (.ptr i2 0) (.ptr io 0) (rowsC encFlight o.fFl) (.sc (.int .i64 o.fFl.length)) (.sc (.int .i64 pre.length)) H = some (.agg (encOut o))
 | [], pre, m + 1, x, H, ids, he, hm, hi => by
  rw [List.append_nil] at he
  show (PR (n + 3) AV).bin _ _ _ _ = _
  simp only [PR_fadr, PR_load, PR_len, PR_bin, PR_cond, PR_store]
  rw [lss_nat, cond_b, if_neg (by rw [he]; simp)]
  subst he
  exact hi.fin
 | y :: t, pre, m + 1, x, H, ids, he, hm, hi => by
  have hlt : pre.length < o.fFl.length := by rw [he]; simp
  have hy : y.fM.fBody.size ≤ 1048576 := hs.1.2 y (by rw [he]; simp)
  have hlen := hs.1.1
  obtain ⟨l1, l2, l3, l4⟩ := hi.lt
  show (PR (n + 3) AV).bin _ _ _ _ = _
  simp only [PR_fadr, PR_load, PR_len, PR_bin, PR_cond, PR_store, PR_iadr, PR_fill, PR_newSl, PR_app, PR_new]
  rw [lss_nat, cond_b, if_pos (by simpa using hlt)]
  refine w_el lenFlight (by decide) he ?_
  refine w_ldA_rp (ds := encFlight y) (Nat.le_of_ble_eq_true rfl) rfl ?_
  refine lw_put rfl (lenFlight _) (fl_leaf (flFlight _)) fun i5 h5 => ?_
  refine w_fadr ?_
  refine w_ld (c := x) (blk_grow hi.ho _) (Nat.le_of_ble_eq_true rfl) rfl ?_
  refine w_fadr ?_
  refine w_ld (c := .sc (.int .i64 y.fId)) h5 (Nat.le_of_ble_eq_true rfl) rfl ?_
  refine w_fadr ?_
  refine w_ldA (ds := encMsg y.fM) h5 (Nat.le_of_ble_eq_true rfl) rfl ?_
  refine w_fadr ?_
  refine w_ld (c := .sc (.int .i64 y.fSt)) h5 (Nat.le_of_ble_eq_true rfl) rfl ?_
  refine flight_step (β := AV) (n := n + 3) (X0 := [⟨encFlight y, true, true⟩]) (f := y) (r := some (.agg (encOut o))) hi.hs rfl (vcons (Vw_agg _ (flMsg _)) vnil) (copyMsgF (n + 1) (by omega) y.fM hy) tyMsg (by omega) fun x' H' ids' h1 h2 h3 h4 => ?_
  refine w_fadr ?_
  refine hi.put h1 h2 h3 fun H'' hi' => ?_
  rw [inc_nat _ _ (by omega)]
  have ih := copyOut_loop n hn o hs io i2 i1 q qids t (pre ++ [y]) m x' H'' ids' (by rw [he]; simp) (by simpa using hm) (by
   rw [List.length_append, List.length_singleton, List.map_append, List.flatten_append]
   simpa using hi')
  rw [List.length_append, List.length_singleton] at ih
  exact ih
theorem outI_a (o : OutV) (A : AV × List Blk) (hA : instT ti0 E0.tp 2 31 (rowsC encMsg o.fQ) = A) : OutI (([⟨encOut o, true, true⟩, ⟨zzOut, true, true⟩] ++ A.2 ++ [⟨zzOut, true, true⟩] : Heap).set (2 + A.2.length) ⟨[.sc (.int .i64 o.fLast), .nl, A.1], true, true⟩) (2 + A.2.length) 1 0 o .nl A.1 0 [] [] (List.range' 2 A.2.length) := by
 have hlen : ([⟨encOut o, true, true⟩, ⟨zzOut, true, true⟩] ++ A.2 : Heap).length = 2 + A.2.length := by simp; omega
 have e : ([⟨encOut o, true, true⟩, ⟨zzOut, true, true⟩] ++ A.2 ++ [⟨zzOut, true, true⟩] : Heap).set (2 + A.2.length) ⟨[.sc (.int .i64 o.fLast), .nl, A.1], true, true⟩ = [⟨encOut o, true, true⟩, ⟨zzOut, true, true⟩] ++ A.2 ++ [⟨[.sc (.int .i64 o.fLast), .nl, A.1], true, true⟩] := by
  rw [← hlen]
  exact set_at _ _ _ []
 rw [e]
 refine ⟨?_, OwnSI.nil _ _ _ _, ?_, List.nodup_range', ⟨zzOut, rfl, rfl⟩, rfl, by omega, by omega, by decide, by simp, ?_, by simp, ?_, by simp, by simp⟩
 ·rw [← hlen]
  exact get_at _ _ []
 ·rw [← hA]
  refine own_inst 7 _ _ 2 (okW_rows (d := 6) lenMsg tyMsgS (okWMsg 4) o.fQ) ?_
  rw [hA]
  exact Lies_in [(⟨encOut o, true, true⟩ : Blk), ⟨zzOut, true, true⟩] A.2 _
 ·rw [List.mem_range'_1]; omega
 ·rw [List.mem_range'_1]; omega
theorem outI_b (o : OutV) (A : AV × List Blk) (hA : instT ti0 E0.tp 3 31 (rowsC encMsg o.fQ) = A) : OutI (([⟨encOut o, true, true⟩, ⟨zzOut, true, true⟩, ⟨zzOut, true, true⟩] ++ A.2 : Heap).set 2 ⟨[.sc (.int .i64 o.fLast), .nl, A.1], true, true⟩) 2 1 0 o .nl A.1 0 [] [] (List.range' 3 A.2.length) := by
 refine ⟨rfl, OwnSI.nil _ _ _ _, ?_, List.nodup_range', ⟨zzOut, rfl, rfl⟩, rfl, by decide, by decide, by decide, by simp, ?_, by simp, ?_, by simp, by simp⟩
 ·rw [← hA]
  refine own_inst 7 _ _ 3 (okW_rows (d := 6) lenMsg tyMsgS (okWMsg 4) o.fQ) ?_
  rw [hA]
  exact Lies_end [(⟨encOut o, true, true⟩ : Blk), ⟨zzOut, true, true⟩, (⟨[.sc (.int .i64 o.fLast), .nl, A.1], true, true⟩ : Blk)] A.2
 ·rw [List.mem_range'_1]; omega
 ·rw [List.mem_range'_1]; omega
theorem leaf_inst (N : Nat) (o : OutV) : isLeaf (instT ti0 E0.tp N 31 (rowsC encMsg o.fQ)).1 = true := rfl
theorem l13CopyF (n : Nat) (hn : 1048576 < n) (o : OutV) (hs : smOutC o) : tree E0 (n + 4) 33 104 [.agg (encOut o)] = some (.agg (encOut o)) := by
 rw [tree_def, f104_eq, f104]
 simp only [PR_box, PR_new, PR_fadr, PR_load, PR_both, PR_fill, PR_store, pNew]
 rw [box_fl _ _ _ (flOut o)]
 simp only [List.length_nil, List.nil_append, List.length_cons, Nat.zero_add]
 have hz : ([⟨[.sc (.int .i64 0), .nl, .nl], true, true⟩] : Heap) = [⟨zzOut, true, true⟩] := rfl
 rw [hz]
 have hH : ([⟨encOut o, true, true⟩] ++ [⟨zzOut, true, true⟩] : Heap)[0]? = some ⟨encOut o, true, true⟩ := rfl
 refine w_fadr ?_
 refine w_ld (c := .sc (.int .i64 o.fLast)) hH (Nat.le_of_ble_eq_true rfl) rfl ?_
 refine w_fadr ?_
 refine w_ld (c := rowsC encMsg o.fQ) hH (Nat.le_of_ble_eq_true rfl) rfl ?_
 refine pBoth_eq ?_ ?_
 ·rw [PR_call (vs := [rowsC encMsg o.fQ]) rfl (vcons (Vw_ro _ _ _) vnil) (l12CopyF n hn o.fQ hs.2.1 hs.2.2)]
  have hl := leaf_inst 2 o
  generalize hA : instT ti0 E0.tp 2 31 (rowsC encMsg o.fQ) = A at hl
  have hA' : instT ti0 E0.tp ([⟨encOut o, true, true⟩] ++ [⟨zzOut, true, true⟩] : Heap).length 31 (rowsC encMsg o.fQ) = A := hA
  rw [hA']
  have hc1 : cellsA A.1 = some [A.1] := by
   generalize A.1 = y at hl
   cases y <;> first | (simp [isLeaf] at hl; done) | (simp only [cellsA, hl, if_true]) | rfl
  refine w_fill (cs := [.sc (.int .i64 o.fLast), .nl, A.1]) (by simp only [fillA, hc1]; rfl) ?_
  have hlen : ([⟨encOut o, true, true⟩] ++ [⟨zzOut, true, true⟩] ++ A.2 : Heap).length = 2 + A.2.length := by simp; omega
  have hg : ([⟨encOut o, true, true⟩] ++ [⟨zzOut, true, true⟩] ++ A.2 ++ [⟨zzOut, true, true⟩] : Heap)[2 + A.2.length]? = some ⟨zzOut, true, true⟩ := by
   rw [← hlen]
   exact get_at _ _ []
  have hc : cellsA (.agg [.sc (.int .i64 o.fLast), .nl, A.1]) = some [.sc (.int .i64 o.fLast), .nl, A.1] := by
   show (if (true && (true && (isLeaf A.1 && true))) = true then _ else none) = _
   rw [hl]
   rfl
  rw [hlen, st_at 3 (2 + A.2.length) 0 _ ⟨zzOut, true, true⟩ [.sc (.int .i64 o.fLast), .nl, A.1] _ _ hg hc rfl (Nat.le_of_ble_eq_true rfl) rfl]
  exact l13_loop n hn o hs (2 + A.2.length) 1 0 A.1 _ o.fFl [] (n + 3) .nl _ [] rfl (by have := hs.1.1; omega) (outI_a o A hA)
 ·rw [PR_call (vs := [rowsC encMsg o.fQ]) rfl (vcons (Vw_ro _ _ _) vnil) (l12CopyF n hn o.fQ hs.2.1 hs.2.2)]
  have hl := leaf_inst 3 o
  generalize hA : instT ti0 E0.tp 3 31 (rowsC encMsg o.fQ) = A at hl
  have hA' : instT ti0 E0.tp ([⟨encOut o, true, true⟩] ++ [⟨zzOut, true, true⟩] ++ [⟨zzOut, true, true⟩] : Heap).length 31 (rowsC encMsg o.fQ) = A := hA
  rw [hA']
  have hc1 : cellsA A.1 = some [A.1] := by
   generalize A.1 = y at hl
   cases y <;> first | (simp [isLeaf] at hl; done) | (simp only [cellsA, hl, if_true]) | rfl
  refine w_fill (cs := [.sc (.int .i64 o.fLast), .nl, A.1]) (by simp only [fillA, hc1]; rfl) ?_
  have hc : cellsA (.agg [.sc (.int .i64 o.fLast), .nl, A.1]) = some [.sc (.int .i64 o.fLast), .nl, A.1] := by
   show (if (true && (true && (isLeaf A.1 && true))) = true then _ else none) = _
   rw [hl]
   rfl
  rw [show ([⟨encOut o, true, true⟩] ++ [⟨zzOut, true, true⟩] : Heap).length = 2 from rfl]
  rw [st_at 3 2 0 _ ⟨zzOut, true, true⟩ [.sc (.int .i64 o.fLast), .nl, A.1] _ _ rfl hc rfl (Nat.le_of_ble_eq_true rfl) rfl]
  exact l13_loop n hn o hs 2 1 0 A.1 _ o.fFl [] (n + 3) .nl _ [] rfl (by have := hs.1.1; omega) (outI_b o A hA)
theorem copyOutF (n : Nat) (hn : 1048576 < n) (o : OutV) (hs : smOutC o) : tree E0 (n + 4) 33 108 [.agg (encOut o)] = some (.agg (encOut o)) := by
 rw [tree_def, f108_eq, f108]
 simp only [PR_box, PR_new, PR_fadr, PR_load, PR_both, PR_fill, PR_store, PR_len, pNew]
 rw [box_fl _ _ _ (flOut o)]
 simp only [List.length_nil, List.nil_append, List.length_cons, Nat.zero_add]
 have hz : ([⟨[.sc (.int .i64 0), .nl, .nl], true, true⟩] : Heap) = [⟨zzOut, true, true⟩] := rfl
 rw [hz]
 have hH : ([⟨encOut o, true, true⟩] ++ [⟨zzOut, true, true⟩] : Heap)[0]? = some ⟨encOut o, true, true⟩ := rfl
 refine w_fadr ?_
 refine w_ld (c := .sc (.int .i64 o.fLast)) hH (Nat.le_of_ble_eq_true rfl) rfl ?_
 refine w_fadr ?_
 refine w_ld (c := rowsC encMsg o.fQ) hH (Nat.le_of_ble_eq_true rfl) rfl ?_
 refine pBoth_eq ?_ ?_
 ·rw [PR_call (vs := [rowsC encMsg o.fQ]) rfl (vcons (Vw_ro _ _ _) vnil) (copyMsgsF n hn o.fQ hs.2.1 hs.2.2)]
  have hl := leaf_inst 2 o
  generalize hA : instT ti0 E0.tp 2 31 (rowsC encMsg o.fQ) = A at hl
  have hA' : instT ti0 E0.tp ([⟨encOut o, true, true⟩] ++ [⟨zzOut, true, true⟩] : Heap).length 31 (rowsC encMsg o.fQ) = A := hA
  rw [hA']
  have hc1 : cellsA A.1 = some [A.1] := by
   generalize A.1 = y at hl
   cases y <;> first | (simp [isLeaf] at hl; done) | (simp only [cellsA, hl, if_true]) | rfl
  refine w_fill (cs := [.sc (.int .i64 o.fLast), .nl, A.1]) (by simp only [fillA, hc1]; rfl) ?_
  have hlen : ([⟨encOut o, true, true⟩] ++ [⟨zzOut, true, true⟩] ++ A.2 : Heap).length = 2 + A.2.length := by simp; omega
  have hg : ([⟨encOut o, true, true⟩] ++ [⟨zzOut, true, true⟩] ++ A.2 ++ [⟨zzOut, true, true⟩] : Heap)[2 + A.2.length]? = some ⟨zzOut, true, true⟩ := by
   rw [← hlen]
   exact get_at _ _ []
  have hc : cellsA (.agg [.sc (.int .i64 o.fLast), .nl, A.1]) = some [.sc (.int .i64 o.fLast), .nl, A.1] := by
   show (if (true && (true && (isLeaf A.1 && true))) = true then _ else none) = _
   rw [hl]
   rfl
  rw [hlen, st_at 3 (2 + A.2.length) 0 _ ⟨zzOut, true, true⟩ [.sc (.int .i64 o.fLast), .nl, A.1] _ _ hg hc rfl (Nat.le_of_ble_eq_true rfl) rfl]
  have hI := outI_a o A hA
  refine w_fadr ?_
  refine w_ld (c := rowsC encFlight o.fFl) hI.src (Nat.le_of_ble_eq_true rfl) rfl ?_
  refine w_len ?_
  exact copyOut_loop n hn o hs (2 + A.2.length) 1 0 A.1 _ o.fFl [] (n + 3) .nl _ [] rfl (by have := hs.1.1; omega) hI
 ·rw [PR_call (vs := [rowsC encMsg o.fQ]) rfl (vcons (Vw_ro _ _ _) vnil) (copyMsgsF n hn o.fQ hs.2.1 hs.2.2)]
  have hl := leaf_inst 3 o
  generalize hA : instT ti0 E0.tp 3 31 (rowsC encMsg o.fQ) = A at hl
  have hA' : instT ti0 E0.tp ([⟨encOut o, true, true⟩] ++ [⟨zzOut, true, true⟩] ++ [⟨zzOut, true, true⟩] : Heap).length 31 (rowsC encMsg o.fQ) = A := hA
  rw [hA']
  have hc1 : cellsA A.1 = some [A.1] := by
   generalize A.1 = y at hl
   cases y <;> first | (simp [isLeaf] at hl; done) | (simp only [cellsA, hl, if_true]) | rfl
  refine w_fill (cs := [.sc (.int .i64 o.fLast), .nl, A.1]) (by simp only [fillA, hc1]; rfl) ?_
  have hc : cellsA (.agg [.sc (.int .i64 o.fLast), .nl, A.1]) = some [.sc (.int .i64 o.fLast), .nl, A.1] := by
   show (if (true && (true && (isLeaf A.1 && true))) = true then _ else none) = _
   rw [hl]
   rfl
  rw [show ([⟨encOut o, true, true⟩] ++ [⟨zzOut, true, true⟩] : Heap).length = 2 from rfl]
  rw [st_at 3 2 0 _ ⟨zzOut, true, true⟩ [.sc (.int .i64 o.fLast), .nl, A.1] _ _ rfl hc rfl (Nat.le_of_ble_eq_true rfl) rfl]
  have hI := outI_b o A hA
  refine w_fadr ?_
  refine w_ld (c := rowsC encFlight o.fFl) hI.src (Nat.le_of_ble_eq_true rfl) rfl ?_
  refine w_len ?_
  exact copyOut_loop n hn o hs 2 1 0 A.1 _ o.fFl [] (n + 3) .nl _ [] rfl (by have := hs.1.1; omega) hI
end Go.Proofs.YtdameggfgnpehaaGreatDoor.Abs
set_option linter.unusedVariables false
set_option linter.unusedSimpArgs false
namespace Go.Proofs.YtdameggfgnpehaaGreatDoor.Abs
open Go
inductive MF where
 | str
 | int
 | bool
 | byt
 | skip
 | sub (fs : List MF)
def repF (n : Nat) (fs : List MF) : List MF := (List.replicate n fs).flatten
theorem repF_succ (n : Nat) (fs : List MF) : repF (n + 1) fs = fs ++ repF n fs := by rw [repF, List.replicate_succ, List.flatten_cons, repF]
theorem repF_len (n : Nat) (fs : List MF) : (repF n fs).length = n * fs.length := by simp [repF]
def digs (k : Nat) (out : ByteArray) : ByteArray := if h : k = 0 then out else digs (k / 10) (⟨#[UInt8.ofNat (48 + k % 10)]⟩ ++ out)
termination_by k
decreasing_by omega
def mTxt (k : Int) : ByteArray := ⟨#[109]⟩ ++ (if k ≤ 0 then ⟨#[48]⟩ else digs k.toNat ⟨#[]⟩)
mutual
def mkF (f : MF) (k : Int) : AV → AV × Int
 | .sc v =>
  match f with
  | .str => (.sc (.string (mTxt k)), k + 1)
  | .int => (.sc (.int .i64 k), k + 1)
  | .bool => (.sc (.bool (k.tmod 3 == 0)), k + 1)
  | .byt => (.sc (.int .u8 (IntKind.u8.wrap k)), k + 1)
  | _ => (.sc v, k)
 | .ro n cells =>
  match f with
  | .sub fs => (.ro n (mkL (repF n fs) k cells).1, (mkL (repF n fs) k cells).2)
  | _ => (.ro n cells, k)
 | x => (x, k)
def mkL (fs : List MF) (k : Int) : List AV → List AV × Int
 | [] => ([], k)
 | c :: cs => ((mkF (fs.headD .skip) k c).1 :: (mkL fs.tail (mkF (fs.headD .skip) k c).2 cs).1, (mkL fs.tail (mkF (fs.headD .skip) k c).2 cs).2)
end
mutual
def cntF (f : MF) : AV → Nat
 | .sc v =>
  match f with
  | .skip => 0
  | .sub _ => 0
  | _ => 1
 | .ro n cells =>
  match f with
  | .sub fs => cntL (repF n fs) cells
  | _ => 0
 | _ => 0
def cntL (fs : List MF) : List AV → Nat
 | [] => 0
 | c :: cs => cntF (fs.headD .skip) c + cntL fs.tail cs
end
mutual
def wfF (f : MF) : AV → Prop
 | .sc v =>
  match f, v with
  | .str, .string _ => True
  | .int, .int .i64 _ => True
  | .bool, .bool _ => True
  | .byt, .int .u8 _ => True
  | .skip, v => leafV v = true
  | _, _ => False
 | .ro n cells =>
  match f with
  | .sub fs => n ≤ 1048576 ∧ cells.length = n * fs.length ∧ wfL (repF n fs) cells
  | _ => False
 | _ => False
def wfL (fs : List MF) : List AV → Prop
 | [] => fs = []
 | c :: cs => fs ≠ [] ∧ wfF (fs.headD .skip) c ∧ wfL fs.tail cs
end
mutual
def nbT : AV → Nat
 | .ro _ cells => 1 + nbL cells
 | .agg cs => nbL cs
 | .tup cs => nbL cs
 | _ => 0
def nbL : List AV → Nat
 | [] => 0
 | c :: cs => nbT c + nbL cs
end
section lists
theorem mkL_cons (f : MF) (fs : List MF) (k : Int) (c : AV) (cs : List AV) : mkL (f :: fs) k (c :: cs) = ((mkF f k c).1 :: (mkL fs (mkF f k c).2 cs).1, (mkL fs (mkF f k c).2 cs).2) := rfl
theorem mkL_append : ∀ (A B : List MF) (k : Int) (X Y : List AV), A.length = X.length → mkL (A ++ B) k (X ++ Y) = ((mkL A k X).1 ++ (mkL B (mkL A k X).2 Y).1, (mkL B (mkL A k X).2 Y).2)
 | [], B, k, [], Y, _ => by simp [mkL]
 | f :: A, B, k, x :: X, Y, h => by
  have ih := mkL_append A B (mkF f k x).2 X Y (by simpa using h)
  rw [List.cons_append, List.cons_append, mkL_cons, mkL_cons, ih]
  rfl
theorem cntL_append : ∀ (A B : List MF) (X Y : List AV), A.length = X.length → cntL (A ++ B) (X ++ Y) = cntL A X + cntL B Y
 | [], B, [], Y, _ => by simp [cntL]
 | f :: A, B, x :: X, Y, h => by
  have ih := cntL_append A B X Y (by simpa using h)
  show cntF f x + cntL (A ++ B) (X ++ Y) = cntF f x + cntL A X + cntL B Y
  rw [ih, Nat.add_assoc]
theorem wfL_cons {f : MF} {fs : List MF} {c : AV} {cs : List AV} : wfL (f :: fs) (c :: cs) ↔ wfF f c ∧ wfL fs cs := by
 show (f :: fs ≠ [] ∧ wfF f c ∧ wfL fs cs) ↔ _
 simp
theorem wfL_len : ∀ {fs : List MF} {cs : List AV}, wfL fs cs → fs.length = cs.length
 | fs, [], h => by
  have : fs = [] := h
  rw [this]
  rfl
 | [], _ :: _, h => absurd rfl h.1
 | f :: fs, c :: cs, h => by
  have := wfL_len (wfL_cons.1 h).2
  simp [this]
theorem wfL_append : ∀ {A B : List MF} {X Y : List AV}, A.length = X.length → (wfL (A ++ B) (X ++ Y) ↔ wfL A X ∧ wfL B Y)
 | [], B, [], Y, _ => by
  show _ ↔ (([] : List MF) = [] ∧ _)
  simp
 | f :: A, B, x :: X, Y, h => by
  have ih := wfL_append (A := A) (B := B) (X := X) (Y := Y) (by simpa using h)
  rw [List.cons_append, List.cons_append, wfL_cons, wfL_cons, ih, and_assoc]
mutual
theorem mkF_cnt : ∀ (x : AV) (f : MF) (k : Int), (mkF f k x).2 = k + cntF f x
 | .sc v, f, k => by cases f <;> simp [mkF, cntF]
 | .ro n cells, f, k => by
  cases f <;> first | (simp [mkF, cntF]; done) | exact mkL_cnt cells _ k
 | .agg cs, f, k => by simp [mkF, cntF]
 | .tup cs, f, k => by simp [mkF, cntF]
 | .any, f, k => by simp [mkF, cntF]
 | .nl, f, k => by simp [mkF, cntF]
 | .sl .., f, k => by simp [mkF, cntF]
 | .ptr .., f, k => by simp [mkF, cntF]
 | .rp .., f, k => by simp [mkF, cntF]
 | .fn .., f, k => by simp [mkF, cntF]
theorem mkL_cnt : ∀ (cs : List AV) (fs : List MF) (k : Int), (mkL fs k cs).2 = k + cntL fs cs
 | [], fs, k => by simp [mkL, cntL]
 | c :: cs, fs, k => by
  show (mkL fs.tail (mkF (fs.headD .skip) k c).2 cs).2 = k + ((cntF (fs.headD .skip) c + cntL fs.tail cs : Nat) : Int)
  rw [mkL_cnt cs, mkF_cnt c]
  omega
end
theorem mkL_len : ∀ (cs : List AV) (fs : List MF) (k : Int), (mkL fs k cs).1.length = cs.length
 | [], fs, k => by simp [mkL]
 | c :: cs, fs, k => by
  show (mkL fs.tail _ cs).1.length + 1 = cs.length + 1
  rw [mkL_len cs]
mutual
theorem mkF_nb : ∀ (x : AV) (f : MF) (k : Int), nbT (mkF f k x).1 = nbT x
 | .sc v, f, k => by cases f <;> rfl
 | .ro n cells, f, k => by
  cases f <;> first | rfl | (show 1 + nbL _ = 1 + nbL _; rw [mkL_nb cells])
 | .agg cs, f, k => by simp [mkF]
 | .tup cs, f, k => by simp [mkF]
 | .any, f, k => by simp [mkF]
 | .nl, f, k => by simp [mkF]
 | .sl .., f, k => by simp [mkF]
 | .ptr .., f, k => by simp [mkF]
 | .rp .., f, k => by simp [mkF]
 | .fn .., f, k => by simp [mkF]
theorem mkL_nb : ∀ (cs : List AV) (fs : List MF) (k : Int), nbL (mkL fs k cs).1 = nbL cs
 | [], fs, k => by simp [mkL]
 | c :: cs, fs, k => by
  show nbT (mkF (fs.headD .skip) k c).1 + nbL (mkL fs.tail _ cs).1 = nbT c + nbL cs
  rw [mkF_nb c, mkL_nb cs]
end
mutual
theorem inst_nb {ti : Nat → Option TI} {tp : Nat → Option (List Nat)} : ∀ (x : AV) (N ty : Nat), (instT ti tp N ty x).2.length = nbT x
 | .sc v, N, ty => rfl
 | .ro n cells, N, ty => by
  simp only [instT, List.length_cons, nbT, instL_nb cells, Nat.add_comm]
 | .agg cs, N, ty => instL_nb cs _ _
 | .tup cs, N, ty => instL_nb cs _ _
 | .any, N, ty => rfl
 | .nl, N, ty => rfl
 | .sl .., N, ty => rfl
 | .ptr .., N, ty => rfl
 | .rp .., N, ty => rfl
 | .fn .., N, ty => rfl
theorem instL_nb {ti : Nat → Option TI} {tp : Nat → Option (List Nat)} : ∀ (cs : List AV) (N : Nat) (ts : List Nat), (instL ti tp N ts cs).2.length = nbL cs
 | [], N, ts => rfl
 | c :: cs, N, ts => by
  simp only [instL, List.length_append, nbL, inst_nb c, instL_nb cs]
end
theorem nbL_append : ∀ (X Y : List AV), nbL (X ++ Y) = nbL X + nbL Y
 | [], Y => by simp [nbL]
 | c :: X, Y => by
  show nbT c + nbL (X ++ Y) = nbT c + nbL X + nbL Y
  rw [nbL_append X Y, Nat.add_assoc]
theorem inst_mid {ti : Nat → Option TI} {tp : Nat → Option (List Nat)} (TP TS : List Nat) (t : Nat) (P S : List AV) (c : AV) (N : Nat) (h : TP.length = P.length) :
  instL ti tp N (TP ++ t :: TS) (P ++ c :: S) = ((instL ti tp N TP P).1 ++ (instT ti tp (N + nbL P) t c).1 :: (instL ti tp (N + nbL P + nbT c) TS S).1, (instL ti tp N TP P).2 ++ ((instT ti tp (N + nbL P) t c).2 ++ (instL ti tp (N + nbL P + nbT c) TS S).2)) := by
 rw [instL_append TP P (t :: TS) (c :: S) N h, instL_nb]
 have e : instL ti tp (N + nbL P) (t :: TS) (c :: S) = ((instT ti tp (N + nbL P) t c).1 :: (instL ti tp (N + nbL P + nbT c) TS S).1, (instT ti tp (N + nbL P) t c).2 ++ (instL ti tp (N + nbL P + nbT c) TS S).2) := by
  rw [instL, inst_nb]
  rfl
 rw [e]
end lists
section steps
variable {β : Type} {n : Nat} {r : Option β}
noncomputable def SB (N : Nat) (T : List Nat) (cells : List AV) : List Blk := ⟨(instL ti0 E0.tp (N + 1) T cells).1, true, true⟩ :: (instL ti0 E0.tp (N + 1) T cells).2
theorem inst_SB {ty len : Nat} {cells : List AV} {i j : TI} (h1 : ti0 ty = some i) (h2 : ti0 i.elem = some j) (N : Nat) : instT ti0 E0.tp N ty (.ro len cells) = (.sl N 0 len j.size, SB N (List.replicate len j.cty).flatten cells) := by
 simp only [instT, h1, Option.bind_some, h2, Option.getD_some]
 rfl
theorem sb_store {A C : Heap} {TP TS : List Nat} {t p : Nat} {P S : List AV} {v0 v : Value} (hT : TP.length = P.length) (hv : leafV v = true) (hp : p = P.length) (K : Heap → Option β) :
  pStore 1 (.ptr A.length p) (.sc v) (A ++ (SB A.length (TP ++ t :: TS) (P ++ .sc v0 :: S) ++ C)) K = K (A ++ (SB A.length (TP ++ t :: TS) (P ++ .sc v :: S) ++ C)) := by
 have hc : cellsA (.sc v) = some [.sc v] := by simp only [cellsA, isLeaf, hv, if_true]
 have hl : (instL ti0 E0.tp (A.length + 1) TP P).1.length = P.length := instL_len _ _ _
 simp only [SB, inst_mid TP TS t P S _ _ hT, instT_sc, nbT, List.cons_append]
 rw [st_at 1 A.length p (.sc v) _ _ _ _ (get_at A _ _) hc rfl (by simp [hl, hp]) rfl, set_at]
 have := splice_mid (instL ti0 E0.tp (A.length + 1) TP P).1 [.sc v0] (instL ti0 E0.tp (A.length + 1 + nbL P + 0) TS S).1 [.sc v] rfl
 simp only [List.singleton_append, hl] at this
 rw [hp, this]
theorem sb_load {A C : Heap} {TP TS : List Nat} {t p : Nat} {P S : List AV} {c : AV} (hT : TP.length = P.length) (hp : p = P.length) (K : AV → Option β) :
  pLoad false 1 (.ptr A.length p) (A ++ (SB A.length (TP ++ t :: TS) (P ++ c :: S) ++ C)) K = K (instT ti0 E0.tp (A.length + 1 + nbL P) t c).1 := by
 have hl : (instL ti0 E0.tp (A.length + 1) TP P).1.length = P.length := instL_len _ _ _
 simp only [SB, inst_mid TP TS t P S _ _ hT, List.cons_append]
 refine ldF ?_ K
 have : p + 1 ≤ ((instL ti0 E0.tp (A.length + 1) TP P).1 ++ (instT ti0 E0.tp (A.length + 1 + nbL P) t c).1 :: (instL ti0 E0.tp (A.length + 1 + nbL P + nbT c) TS S).1).length := by simp [hl, hp]
 simp only [rdCells, get_at, if_true, this]
 rw [hp, ← hl, List.drop_append_of_le_length (Nat.le_refl _), List.drop_length]
 rfl
def MarkC (n f ty : Nat) (t t' : AV) (k k' : Int) : Prop := ∀ (β : Type) (A C : Heap) (K : AV → Heap → Option β) (r : Option β),
 (∀ X, K (.sc (.int .i64 k')) (A ++ ((instT ti0 E0.tp A.length ty t').2 ++ (C ++ X))) = r) → evalFn E0 n β f [(instT ti0 E0.tp A.length ty t).1, .sc (.int .i64 k)] (A ++ ((instT ti0 E0.tp A.length ty t).2 ++ C)) K = r
theorem PR_hm {ty : Nat} {f : FuncId} {args : List AV} {H : Heap} {K : AV → Heap → Option β} (hh : E0.hm f = true) (hx : E0.ext f = none) : (PR n β).call ty (.fn f [] []) args H K = evalFn E0 n β f args H K := by
 show callF E0 (evalFn E0 n) ty f ([] ++ args ++ []) H K = _
 simp only [callF, hx, hh, List.nil_append, List.append_nil, if_true]
theorem ms_sub {A C : Heap} {TP TS : List Nat} {t p ty g : Nat} {P S : List AV} {c c' : AV} {k k' : Int} {K : AV → Heap → Option β} (hT : TP.length = P.length) (hp : p = P.length) (hh : E0.hm g = true) (hx : E0.ext g = none) (hmk : MarkC n g t c c' k k') (hs : ∀ M, (instT ti0 E0.tp M t c').1 = (instT ti0 E0.tp M t c).1) (hn : nbT c' = nbT c)
  (h : ∀ X, K (.sc (.int .i64 k')) (A ++ (SB A.length (TP ++ t :: TS) (P ++ c' :: S) ++ (C ++ X))) = r) :
  (pLoad false 1 (.ptr A.length p) (A ++ (SB A.length (TP ++ t :: TS) (P ++ c :: S) ++ C)) fun v => (PR n β).call ty (.fn g [] []) [v, .sc (.int .i64 k)] (A ++ (SB A.length (TP ++ t :: TS) (P ++ c :: S) ++ C)) K) = r := by
 rw [sb_load hT hp, PR_hm hh hx]
 have e : ∀ (d : AV) (D : Heap), A ++ (SB A.length (TP ++ t :: TS) (P ++ d :: S) ++ D) = (A ++ ⟨(instL ti0 E0.tp (A.length + 1) TP P).1 ++ (instT ti0 E0.tp (A.length + 1 + nbL P) t d).1 :: (instL ti0 E0.tp (A.length + 1 + nbL P + nbT d) TS S).1, true, true⟩ :: (instL ti0 E0.tp (A.length + 1) TP P).2) ++ ((instT ti0 E0.tp (A.length + 1 + nbL P) t d).2 ++ ((instL ti0 E0.tp (A.length + 1 + nbL P + nbT d) TS S).2 ++ D)) := by
  intro d D
  simp only [SB, inst_mid TP TS t P S _ _ hT, List.cons_append, List.append_assoc]
 have hN : ∀ b : Blk, (A ++ b :: (instL ti0 E0.tp (A.length + 1) TP P).2).length = A.length + 1 + nbL P := by
  intro b
  rw [List.length_append, List.length_cons, instL_nb]
  omega
 rw [e c C]
 have key := hmk β (A ++ ⟨(instL ti0 E0.tp (A.length + 1) TP P).1 ++ (instT ti0 E0.tp (A.length + 1 + nbL P) t c).1 :: (instL ti0 E0.tp (A.length + 1 + nbL P + nbT c) TS S).1, true, true⟩ :: (instL ti0 E0.tp (A.length + 1) TP P).2) ((instL ti0 E0.tp (A.length + 1 + nbL P + nbT c) TS S).2 ++ C) K r
 rw [hN] at key
 refine key fun X => ?_
 have h2 := h X
 rw [e c' (C ++ X), hs, hn] at h2
 simp only [List.append_assoc, List.cons_append] at h2 ⊢
 exact h2
end steps
structure FD where
 f : MF
 path : List Nat
 g : FuncId
def TxtOk (n tS g : Nat) : Prop := plainF g = false ∧ ∀ k : Int, 0 ≤ k → k ≤ 4611686018427387904 → tree E0 n tS g [.sc (.int .i64 k)] = some (.sc (.string (mTxt k)))
def MarkOk (n g ty : Nat) (fs : List MF) : Prop := E0.hm g = true ∧ E0.ext g = none ∧ (∃ i j, ti0 ty = some i ∧ ti0 i.elem = some j) ∧ ∀ (len : Nat) (cells : List AV) (k : Int), wfF (.sub fs) (.ro len cells) → 0 ≤ k → k + cntF (.sub fs) (.ro len cells) ≤ 4611686018427387904 →
 MarkC n g ty (.ro len cells) (mkF (.sub fs) k (.ro len cells)).1 k (mkF (.sub fs) k (.ro len cells)).2
def HeldOk (n g : Nat) (fs : List MF) : Prop := plainF g = false ∧ ∀ (ty len : Nat) (cells : List AV) (k : Int), wfF (.sub fs) (.ro len cells) → 0 ≤ k → k + cntF (.sub fs) (.ro len cells) ≤ 4611686018427387904 →
 tree E0 n ty g [(mkF (.sub fs) k (.ro len cells)).1, .sc (.int .i64 k)] = some (.sc (.int .i64 (mkF (.sub fs) k (.ro len cells)).2))
def subM (n t g : Nat) : MF → Prop
 | .sub fs => MarkOk n g t fs
 | _ => True
def subH (n g : Nat) : MF → Prop
 | .sub fs => HeldOk n g fs
 | _ => True
def FdsM (n : Nat) : Nat → List FD → List Nat → Prop
 | off, fd :: r, t :: ts => fd.path.sum = off ∧ subM n t fd.g fd.f ∧ FdsM n (off + 1) r ts
 | _, [], [] => True
 | _, _, _ => False
def FdsH (n : Nat) : Nat → List FD → Prop
 | off, fd :: r => fd.path.sum = off ∧ subH n fd.g fd.f ∧ FdsH n (off + 1) r
 | _, [] => True
section fns
variable {β : Type}
def fadrs (p : Pr β) : List Nat → AV → (AV → Option β) → Option β
 | [], x, K => K x
 | o :: r, x, K => p.fadr o x fun t => fadrs p r t K
def bodyM (p : Pr β) (tS tI gT w : Nat) (a i : AV) : List FD → AV → Heap → (AV → Heap → Option β) → Option β
 | [], k, H, K => K k H
 | ⟨.str, path, _⟩ :: r, k, H, K => p.call tS (.fn gT [] []) [k] H fun s H => p.iadr w a i fun t => fadrs p path t fun t => p.store 1 t s H fun H => p.bin .add k (.sc (.int .i64 1)) fun k => bodyM p tS tI gT w a i r k H K
 | ⟨.int, path, _⟩ :: r, k, H, K => p.iadr w a i fun t => fadrs p path t fun t => p.store 1 t k H fun H => p.bin .add k (.sc (.int .i64 1)) fun k => bodyM p tS tI gT w a i r k H K
 | ⟨.bool, path, _⟩ :: r, k, H, K => p.bin .rem k (.sc (.int .i64 3)) fun q => p.bin .eql q (.sc (.int .i64 0)) fun b => p.iadr w a i fun t => fadrs p path t fun t => p.store 1 t b H fun H => p.bin .add k (.sc (.int .i64 1)) fun k => bodyM p tS tI gT w a i r k H K
 | ⟨.byt, path, _⟩ :: r, k, H, K => p.cvI .u8 k fun c => p.iadr w a i fun t => fadrs p path t fun t => p.store 1 t c H fun H => p.bin .add k (.sc (.int .i64 1)) fun k => bodyM p tS tI gT w a i r k H K
 | ⟨.sub _, path, g⟩ :: r, k, H, K => p.iadr w a i fun t => fadrs p path t fun t => p.load false 1 t H fun v => p.call tI (.fn g [] []) [v, k] H fun k H => bodyM p tS tI gT w a i r k H K
 | ⟨.skip, _, _⟩ :: r, k, H, K => bodyM p tS tI gT w a i r k H K
def bodyH (p : Pr β) (tS tI gT w : Nat) (a i : AV) (F : Heap → Option β) : List FD → AV → Heap → (AV → Heap → Option β) → Option β
 | [], k, H, K => K k H
 | ⟨.str, path, _⟩ :: r, k, H, K => p.iadr w a i fun t => fadrs p path t fun t => p.load false 1 t H fun v => p.call tS (.fn gT [] []) [k] H fun s H => p.bin .neq v s fun b => p.cond b (F H) (p.bin .add k (.sc (.int .i64 1)) fun k => bodyH p tS tI gT w a i F r k H K)
 | ⟨.int, path, _⟩ :: r, k, H, K => p.iadr w a i fun t => fadrs p path t fun t => p.load false 1 t H fun v => p.bin .neq v k fun b => p.cond b (F H) (p.bin .add k (.sc (.int .i64 1)) fun k => bodyH p tS tI gT w a i F r k H K)
 | ⟨.bool, path, _⟩ :: r, k, H, K => p.iadr w a i fun t => fadrs p path t fun t => p.load false 1 t H fun v => p.bin .rem k (.sc (.int .i64 3)) fun q => p.bin .eql q (.sc (.int .i64 0)) fun e => p.binB .neq v e fun b => p.cond b (F H) (p.bin .add k (.sc (.int .i64 1)) fun k => bodyH p tS tI gT w a i F r k H K)
 | ⟨.byt, path, _⟩ :: r, k, H, K => p.iadr w a i fun t => fadrs p path t fun t => p.load false 1 t H fun v => p.cvI .u8 k fun c => p.bin .neq v c fun b => p.cond b (F H) (p.bin .add k (.sc (.int .i64 1)) fun k => bodyH p tS tI gT w a i F r k H K)
 | ⟨.sub _, path, g⟩ :: r, k, H, K => p.iadr w a i fun t => fadrs p path t fun t => p.load false 1 t H fun v => p.call tI (.fn g [] []) [v, k] H fun k H => p.bin .lss k (.sc (.int .i64 0)) fun b => p.cond b (F H) (bodyH p tS tI gT w a i F r k H K)
 | ⟨.skip, _, _⟩ :: r, k, H, K => bodyH p tS tI gT w a i F r k H K
variable {n : Nat} {res : Option β}
theorem fadrs_ptr : ∀ (path : List Nat) (id off : Nat) (K : AV → Option β), fadrs (PR n β) path (.ptr id off) K = K (.ptr id (off + path.sum))
 | [], id, off, K => rfl
 | o :: r, id, off, K => by
  show fadrs (PR n β) r (.ptr id (off + o)) K = _
  rw [fadrs_ptr r, List.sum_cons, Nat.add_assoc]
theorem fadrs_rp : ∀ (path : List Nat) (cells : List AV) (K : AV → Option β), fadrs (PR n β) path (.rp cells) K = K (.rp (cells.drop path.sum))
 | [], cells, K => by simp [fadrs]
 | o :: r, cells, K => by
  show fadrs (PR n β) r (.rp (cells.drop o)) K = _
  rw [fadrs_rp r, List.sum_cons, List.drop_drop]
theorem add1 (k : Int) (K : AV → Option β) (h0 : 0 ≤ k) (h1 : k ≤ 4611686018427387904) : pBin .add (.sc (.int .i64 k)) (.sc (.int .i64 1)) K = K (.sc (.int .i64 (k + 1))) := by
 show K (.sc (.int .i64 (IntKind.i64.wrap (k + 1)))) = _
 rw [wrap64 _ (by omega) (by omega)]
theorem rem3 (k : Int) (K : AV → Option β) : (pBin .rem (.sc (.int .i64 k)) (.sc (.int .i64 3)) fun q => pBin .eql q (.sc (.int .i64 0)) K) = K (.sc (.bool (k.tmod 3 == 0))) := rfl
theorem cv8 (k : Int) (K : AV → Option β) : pCvI .u8 (.sc (.int .i64 k)) K = K (.sc (.int .u8 (IntKind.u8.wrap k))) := rfl
theorem call_txt {tS gT : Nat} (h : TxtOk n tS gT) {k : Int} (h0 : 0 ≤ k) (h1 : k ≤ 4611686018427387904) (H : Heap) (K : AV → Heap → Option β) : (PR n β).call tS (.fn gT [] []) [.sc (.int .i64 k)] H K = K (.sc (.string (mTxt k))) H := by
 rw [PR_call (vs := [.sc (.int .i64 k)]) h.1 rfl (h.2 k h0 h1), instT_sc, List.append_nil]
theorem body_m {tS tI gT w len i : Nat} (hT : TxtOk n tS gT) (hi : i < len) : ∀ (todo : List FD) (off : Nat) (Q R S : List AV) (TP tR TS : List Nat) (k : Int) (A C : Heap) (K : AV → Heap → Option β),
  FdsM n off todo tR → TP.length = Q.length → Q.length = i * w + off → wfL (todo.map FD.f) R → 0 ≤ k → k + cntL (todo.map FD.f) R ≤ 4611686018427387904 →
  (∀ X, K (.sc (.int .i64 (mkL (todo.map FD.f) k R).2)) (A ++ (SB A.length (TP ++ (tR ++ TS)) (Q ++ ((mkL (todo.map FD.f) k R).1 ++ S)) ++ (C ++ X))) = res) →
  bodyM (PR n β) tS tI gT w (.sl A.length 0 len w) (.sc (.int .i64 i)) todo (.sc (.int .i64 k)) (A ++ (SB A.length (TP ++ (tR ++ TS)) (Q ++ (R ++ S)) ++ C)) K = res
 | [], off, Q, R, S, TP, tR, TS, k, A, C, K, hf, ht, hq, hw, h0, h1, h => by
  cases R with
  | nil =>
   have := h []
   simp only [List.append_nil] at this
   exact this
  | cons c R => exact absurd rfl hw.1
 | fd :: todo, off, Q, R, S, TP, tR, TS, k, A, C, K, hf, ht, hq, hw, h0, h1, h => by
  cases R with
  | nil => exact absurd (show fd.f :: todo.map FD.f = [] from hw) (by simp)
  | cons c R =>
  cases tR with
  | nil => exact hf.elim
  | cons t tR =>
  obtain ⟨hpath, hsub, hrest⟩ := hf
  obtain ⟨hwc, hwR⟩ := wfL_cons.1 hw
  have hpl : ∀ K' : AV → Option β, (pIadr w (.sl A.length 0 len w) (.sc (.int .i64 i)) fun t => fadrs (PR n β) fd.path t K') = K' (.ptr A.length Q.length) := fun K' => by
   rw [iadr_sl w _ _ _ _ _ hi, fadrs_ptr, hpath, hq, Nat.zero_add]
  have hcnt : cntL ((fd :: todo).map FD.f) (c :: R) = cntF fd.f c + cntL (todo.map FD.f) R := rfl
  have hmk : mkL ((fd :: todo).map FD.f) k (c :: R) = ((mkF fd.f k c).1 :: (mkL (todo.map FD.f) (mkF fd.f k c).2 R).1, (mkL (todo.map FD.f) (mkF fd.f k c).2 R).2) := rfl
  rw [hcnt] at h1
  rw [hmk] at h
  have e1 : ∀ (x : AV) (Y : List AV), Q ++ (x :: Y ++ S) = Q ++ x :: (Y ++ S) := fun x Y => rfl
  have e2 : ∀ (x : AV) (Y : List AV), Q ++ x :: (Y ++ S) = (Q ++ [x]) ++ (Y ++ S) := fun x Y => by simp
  have e3 : TP ++ (t :: tR ++ TS) = (TP ++ [t]) ++ (tR ++ TS) := by simp
  have e4 : TP ++ (t :: tR ++ TS) = TP ++ t :: (tR ++ TS) := rfl
  have go : ∀ (c' : AV) (k' : Int) (C : Heap) (K : AV → Heap → Option β), 0 ≤ k' → k' + cntL (todo.map FD.f) R ≤ 4611686018427387904 →
    (∀ X, K (.sc (.int .i64 (mkL (todo.map FD.f) k' R).2)) (A ++ (SB A.length (TP ++ (t :: tR ++ TS)) (Q ++ (c' :: (mkL (todo.map FD.f) k' R).1 ++ S)) ++ (C ++ X))) = res) →
    bodyM (PR n β) tS tI gT w (.sl A.length 0 len w) (.sc (.int .i64 i)) todo (.sc (.int .i64 k')) (A ++ (SB A.length (TP ++ (t :: tR ++ TS)) (Q ++ c' :: (R ++ S)) ++ C)) K = res := by
   intro c' k' C K h0' h1' h'
   have := body_m (tI := tI) (w := w) hT hi todo (off + 1) (Q ++ [c']) R S (TP ++ [t]) tR TS k' A C K hrest (by simp [ht]) (by simp [hq]; omega) hwR h0' h1' (fun X => by
    have := h' X
    rw [e1, e2, e3] at this
    exact this)
   rw [e3, e2]
   exact this
  obtain ⟨f, path, g⟩ := fd
  cases f with
  | skip =>
   have hc : ∃ v, c = .sc v := by
    cases c <;> first | exact ⟨_, rfl⟩ | exact hwc.elim
   obtain ⟨v, rfl⟩ := hc
   exact go (.sc v) k C K h0 (by simpa [cntF] using h1) h
  | sub fs =>
   have hc : ∃ m cells, c = .ro m cells := by
    cases c with
    | ro m cells => exact ⟨m, cells, rfl⟩
    | sc v => exact hwc.elim
    | _ => exact hwc.elim
   obtain ⟨m, cells, rfl⟩ := hc
   obtain ⟨hh, hx, ⟨j1, j2, hj1, hj2⟩, hmk'⟩ := hsub
   have hk' := mkF_cnt (.ro m cells) (.sub fs) k
   have h1 : k + (cntF (.sub fs) (.ro m cells) + cntL (todo.map FD.f) R : Nat) ≤ 4611686018427387904 := h1
   show (pIadr w (.sl A.length 0 len w) (.sc (.int .i64 i)) fun t => fadrs (PR n β) path t fun t => pLoad false 1 t _ fun v => (PR n β).call tI (.fn g [] []) [v, .sc (.int .i64 k)] _ fun k H => bodyM (PR n β) tS tI gT w _ _ todo k H K) = res
   rw [hpl]
   rw [e4, e1]
   refine ms_sub ht rfl hh hx (hmk' m cells k hwc h0 (by omega)) (fun M => ?_) (mkF_nb _ _ _) fun X => ?_
   ·rw [inst_SB hj1 hj2]
    show (instT ti0 E0.tp M t (.ro m _)).1 = _
    rw [inst_SB hj1 hj2]
   ·refine go _ _ (C ++ X) K (by omega) (by omega) fun Y => ?_
    rw [List.append_assoc]
    exact h (X ++ Y)
  | str =>
   have hc : ∃ s, c = .sc (.string s) := by
    cases c with
    | sc v => cases v <;> first | exact ⟨_, rfl⟩ | exact hwc.elim
    | _ => exact hwc.elim
   obtain ⟨v, rfl⟩ := hc
   have h1 : k + (1 + cntL (todo.map FD.f) R : Nat) ≤ 4611686018427387904 := h1
   show (PR n β).call tS (.fn gT [] []) [.sc (.int .i64 k)] _ (fun s H => pIadr w (.sl A.length 0 len w) (.sc (.int .i64 i)) fun t => fadrs (PR n β) path t fun t => pStore 1 t s H fun H => pBin .add (.sc (.int .i64 k)) (.sc (.int .i64 1)) fun k => bodyM (PR n β) tS tI gT w _ _ todo k H K) = res
   rw [call_txt hT h0 (by omega)]
   simp only [hpl]
   rw [e4, e1, sb_store ht rfl rfl, add1 _ _ h0 (by omega)]
   exact go _ _ C K (by omega) (by omega) h
  | int =>
   have hc : ∃ z, c = .sc (.int .i64 z) := by
    cases c with
    | sc v => cases v with
     | int kd z => cases kd <;> first | exact ⟨_, rfl⟩ | exact hwc.elim
     | _ => exact hwc.elim
    | _ => exact hwc.elim
   obtain ⟨v, rfl⟩ := hc
   have h1 : k + (1 + cntL (todo.map FD.f) R : Nat) ≤ 4611686018427387904 := h1
   show (pIadr w (.sl A.length 0 len w) (.sc (.int .i64 i)) fun t => fadrs (PR n β) path t fun t => pStore 1 t (.sc (.int .i64 k)) _ fun H => pBin .add (.sc (.int .i64 k)) (.sc (.int .i64 1)) fun k => bodyM (PR n β) tS tI gT w _ _ todo k H K) = res
   rw [hpl]
   rw [e4, e1, sb_store ht rfl rfl, add1 _ _ h0 (by omega)]
   exact go _ _ C K (by omega) (by omega) h
  | bool =>
   have hc : ∃ b, c = .sc (.bool b) := by
    cases c with
    | sc v => cases v <;> first | exact ⟨_, rfl⟩ | exact hwc.elim
    | _ => exact hwc.elim
   obtain ⟨v, rfl⟩ := hc
   have h1 : k + (1 + cntL (todo.map FD.f) R : Nat) ≤ 4611686018427387904 := h1
   show (pIadr w (.sl A.length 0 len w) (.sc (.int .i64 i)) fun t => fadrs (PR n β) path t fun t => pStore 1 t (.sc (.bool (k.tmod 3 == 0))) _ fun H => pBin .add (.sc (.int .i64 k)) (.sc (.int .i64 1)) fun k => bodyM (PR n β) tS tI gT w _ _ todo k H K) = res
   rw [hpl]
   rw [e4, e1, sb_store ht rfl rfl, add1 _ _ h0 (by omega)]
   exact go _ _ C K (by omega) (by omega) h
  | byt =>
   have hc : ∃ z, c = .sc (.int .u8 z) := by
    cases c with
    | sc v => cases v with
     | int kd z => cases kd <;> first | exact ⟨_, rfl⟩ | exact hwc.elim
     | _ => exact hwc.elim
    | _ => exact hwc.elim
   obtain ⟨v, rfl⟩ := hc
   have h1 : k + (1 + cntL (todo.map FD.f) R : Nat) ≤ 4611686018427387904 := h1
   show (pIadr w (.sl A.length 0 len w) (.sc (.int .i64 i)) fun t => fadrs (PR n β) path t fun t => pStore 1 t (.sc (.int .u8 (IntKind.u8.wrap k))) _ fun H => pBin .add (.sc (.int .i64 k)) (.sc (.int .i64 1)) fun k => bodyM (PR n β) tS tI gT w _ _ todo k H K) = res
   rw [hpl]
   rw [e4, e1, sb_store ht rfl rfl, add1 _ _ h0 (by omega)]
   exact go _ _ C K (by omega) (by omega) h
end fns
end Go.Proofs.YtdameggfgnpehaaGreatDoor.Abs
set_option linter.unusedVariables false
set_option linter.unusedSimpArgs false
namespace Go.Proofs.YtdameggfgnpehaaGreatDoor.Abs
open Go
variable {β : Type} {n : Nat} {res : Option β}
theorem FdsM_len {n : Nat} : ∀ {off : Nat} {fds : List FD} {ts : List Nat}, FdsM n off fds ts → fds.length = ts.length
 | _, [], [], _ => rfl
 | _, _ :: _, _ :: _, h => by simp [FdsM_len h.2.2]
 | _, [], _ :: _, h => h.elim
 | _, _ :: _, [], h => h.elim
theorem len_sl (id off m w : Nat) (k : AV → Option β) : pLen (.sl id off m w) k = k (.sc (.int .i64 m)) := rfl
theorem loop_m {tS tI gT w len : Nat} {cty : List Nat} {fds : List FD} (hT : TxtOk n tS gT) (hf : FdsM n 0 fds cty) (hw : fds.length = w) (hlen : len ≤ 1048576) (L : Nat → AV → AV → AV → Heap → Option β) (kk : AV → Heap → Option β)
  (hL : ∀ m a k i H, L (m + 1) a k i H = pLen a fun t8 => pBin .lss i t8 fun t9 => pCond t9 (bodyM (PR n β) tS tI gT w a i fds k H fun k' H => pBin .add i (.sc (.int .i64 1)) fun i' => L m a k' i' H) (kk k H)) :
  ∀ (r i m : Nat) (P S : List AV) (TP : List Nat) (k : Int) (A C : Heap), P.length = i * w → TP.length = P.length → i + r = len → r < m → wfL (repF r (fds.map FD.f)) S → 0 ≤ k → k + cntL (repF r (fds.map FD.f)) S ≤ 4611686018427387904 →
   (∀ X, kk (.sc (.int .i64 (mkL (repF r (fds.map FD.f)) k S).2)) (A ++ (SB A.length (TP ++ (List.replicate r cty).flatten) (P ++ (mkL (repF r (fds.map FD.f)) k S).1) ++ (C ++ X))) = res) →
   L m (.sl A.length 0 len w) (.sc (.int .i64 k)) (.sc (.int .i64 i)) (A ++ (SB A.length (TP ++ (List.replicate r cty).flatten) (P ++ S) ++ C)) = res
 | 0, i, m + 1, P, S, TP, k, A, C, hP, hTP, hr, hm, hwf, h0, h1, h => by
  have hS : S = [] := by
   have := wfL_len hwf
   simp [repF] at this
   exact List.eq_nil_of_length_eq_zero this.symm
  subst hS
  obtain rfl : i = len := by omega
  rw [hL]
  rw [len_sl, lss_nat, cond_b, if_neg (by simp)]
  have := h []
  simp only [List.append_nil, mkL] at this ⊢
  exact this
 | r + 1, i, m + 1, P, S, TP, k, A, C, hP, hTP, hr, hm, hwf, h0, h1, h => by
  have hi : i < len := by omega
  have hml : (fds.map FD.f).length = w := by simp [hw]
  have hSl : S.length = (r + 1) * w := by
   have := wfL_len hwf
   rw [repF_len, hml] at this
   exact this.symm
  obtain ⟨R, S', rfl, hRl⟩ : ∃ R S', S = R ++ S' ∧ R.length = w := ⟨S.take w, S.drop w, (List.take_append_drop w S).symm, by rw [List.length_take, hSl, Nat.succ_mul]; omega⟩
  rw [repF_succ] at hwf h1 h
  have hl : (fds.map FD.f).length = R.length := by rw [hml, hRl]
  obtain ⟨hwR, hwS⟩ := (wfL_append hl).1 hwf
  rw [cntL_append _ _ _ _ hl] at h1
  rw [mkL_append _ _ _ _ _ hl] at h
  have hkc := mkL_cnt R (fds.map FD.f) k
  have hRl' := mkL_len R (fds.map FD.f) k
  have hcl : cty.length = w := by rw [← FdsM_len hf, hw]
  rw [List.replicate_succ, List.flatten_cons] at h ⊢
  rw [hL]
  rw [len_sl, lss_nat, cond_b, if_pos (by simpa using hi)]
  refine body_m (w := w) (tI := tI) hT hi fds 0 P R S' TP cty (List.replicate r cty).flatten k A C _ hf hTP (by rw [hP, Nat.add_zero]) hwR h0 (by omega) fun X => ?_
  rw [inc_nat _ _ (by omega)]
  have ih := loop_m hT hf hw hlen L kk hL r (i + 1) m (P ++ (mkL (fds.map FD.f) k R).1) S' (TP ++ cty) (mkL (fds.map FD.f) k R).2 A (C ++ X) (by rw [List.length_append, hP, hRl', hRl, Nat.succ_mul]) (by rw [List.length_append, List.length_append, hTP, hcl, hRl', hRl]) (by omega) (by omega) hwS (by omega) (by omega) (fun Y => by
   have := h (X ++ Y)
   simp only [List.append_assoc] at this ⊢
   exact this)
  simp only [List.append_assoc] at ih ⊢
  exact ih
theorem mark_ok {tS tI gT w f tyS : Nat} {cty : List Nat} {fds : List FD} (hh : E0.hm f = true) (hx : E0.ext f = none) (hT : TxtOk n tS gT) (hf : FdsM n 0 fds cty) (hw : fds.length = w) (hty : ∃ i j, ti0 tyS = some i ∧ ti0 i.elem = some j ∧ j.size = w ∧ j.cty = cty) (hn : 1048576 < n)
  (L : (β : Type) → (AV → Heap → Option β) → Nat → AV → AV → AV → Heap → Option β)
  (hL : ∀ β kk m a k i H, L β kk (m + 1) a k i H = pLen a fun t8 => pBin .lss i t8 fun t9 => pCond t9 (bodyM (PR n β) tS tI gT w a i fds k H fun k' H => pBin .add i (.sc (.int .i64 1)) fun i' => L β kk m a k' i' H) (kk k H))
  (hF : ∀ β a b H kk, evalFn E0 (n + 1) β f [a, b] H kk = L β kk n a b (.sc (.int .i64 0)) H) : MarkOk (n + 1) f tyS (fds.map FD.f) := by
 obtain ⟨ti, tj, h1, h2, h3, h4⟩ := hty
 refine ⟨hh, hx, ⟨ti, tj, h1, h2⟩, fun len cells k hwf h0 hb => ?_⟩
 intro β A C K r h
 obtain ⟨hlen, hcl, hwl⟩ := (show len ≤ 1048576 ∧ cells.length = len * (fds.map FD.f).length ∧ wfL (repF len (fds.map FD.f)) cells from hwf)
 rw [hF, inst_SB h1 h2, h3, h4]
 have hmk : mkF (.sub (fds.map FD.f)) k (.ro len cells) = (.ro len (mkL (repF len (fds.map FD.f)) k cells).1, (mkL (repF len (fds.map FD.f)) k cells).2) := rfl
 rw [hmk] at h
 simp only [inst_SB h1 h2, h3, h4] at h
 exact loop_m (n := n) (cty := cty) hT hf hw hlen (L β K) K (hL β K) len 0 n [] cells [] k A C (by simp) rfl (by omega) (by omega) hwl h0 hb h
theorem body_h {tS tI gT w len i : Nat} {F : Heap → Option β} (hT : TxtOk n tS gT) (hi : i < len) (cells : List AV) (hw0 : i * w < cells.length) : ∀ (todo : List FD) (off : Nat) (Q R S : List AV) (k : Int) (H : Heap) (K : AV → Heap → Option β),
  FdsH n off todo → Q.length = i * w + off → wfL (todo.map FD.f) R → 0 ≤ k → k + cntL (todo.map FD.f) R ≤ 4611686018427387904 → cells = Q ++ ((mkL (todo.map FD.f) k R).1 ++ S) →
  (∀ X, K (.sc (.int .i64 (mkL (todo.map FD.f) k R).2)) (H ++ X) = res) →
  bodyH (PR n β) tS tI gT w (.ro len cells) (.sc (.int .i64 i)) F todo (.sc (.int .i64 k)) H K = res
 | [], off, Q, R, S, k, H, K, hf, hq, hw, h0, h1, hc, h => by
  cases R with
  | nil =>
   have := h []
   rw [List.append_nil] at this
   exact this
  | cons c R => exact absurd rfl hw.1
 | fd :: todo, off, Q, R, S, k, H, K, hf, hq, hw, h0, h1, hc, h => by
  cases R with
  | nil => exact absurd (show fd.f :: todo.map FD.f = [] from hw) (by simp)
  | cons c R =>
  obtain ⟨hpath, hsub, hrest⟩ := hf
  obtain ⟨hwc, hwR⟩ := wfL_cons.1 hw
  have hmk : mkL ((fd :: todo).map FD.f) k (c :: R) = ((mkF fd.f k c).1 :: (mkL (todo.map FD.f) (mkF fd.f k c).2 R).1, (mkL (todo.map FD.f) (mkF fd.f k c).2 R).2) := rfl
  rw [hmk] at h hc
  have hcells : cells = Q ++ (mkF fd.f k c).1 :: ((mkL (todo.map FD.f) (mkF fd.f k c).2 R).1 ++ S) := hc
  have hpl : ∀ K' : AV → Option β, (pIadr w (.ro len cells) (.sc (.int .i64 i)) fun t => fadrs (PR n β) fd.path t fun t => pLoad false 1 t H K') = K' (mkF fd.f k c).1 := fun K' => by
   rw [iadr_ro w _ _ i _ hi hw0, fadrs_rp, hpath, List.drop_drop, ← hq]
   conv => lhs; rw [hcells]
   rw [List.drop_append_of_le_length (Nat.le_refl _), List.drop_length, List.nil_append, ld1_rp]
  have go : ∀ (H' : Heap), (∀ X, K (.sc (.int .i64 (mkL (todo.map FD.f) (mkF fd.f k c).2 R).2)) (H' ++ X) = res) → 0 ≤ (mkF fd.f k c).2 → (mkF fd.f k c).2 + cntL (todo.map FD.f) R ≤ 4611686018427387904 →
    bodyH (PR n β) tS tI gT w (.ro len cells) (.sc (.int .i64 i)) F todo (.sc (.int .i64 (mkF fd.f k c).2)) H' K = res := by
   intro H' h' g0 g1
   exact body_h hT hi cells hw0 todo (off + 1) (Q ++ [(mkF fd.f k c).1]) R S (mkF fd.f k c).2 H' K hrest (by simp [hq]; omega) hwR g0 g1 (by rw [hcells]; simp) h'
  have hcnt := mkF_cnt c fd.f k
  have h1 : k + (cntF fd.f c + cntL (todo.map FD.f) R : Nat) ≤ 4611686018427387904 := h1
  obtain ⟨f, path, g⟩ := fd
  simp only at hcnt h1 hpl go h
  cases f with
  | skip =>
   have hc : ∃ v, c = .sc v := by
    cases c <;> first | exact ⟨_, rfl⟩ | exact hwc.elim
   obtain ⟨v, rfl⟩ := hc
   exact go H h h0 (by simpa [cntF, mkF] using h1)
  | sub fs =>
   have hc : ∃ m cells, c = .ro m cells := by
    cases c with
    | ro m cells => exact ⟨m, cells, rfl⟩
    | sc v => exact hwc.elim
    | _ => exact hwc.elim
   obtain ⟨m, cs, rfl⟩ := hc
   obtain ⟨hh, hhe⟩ := hsub
   show (pIadr w (.ro len cells) (.sc (.int .i64 i)) fun t => fadrs (PR n β) path t fun t => pLoad false 1 t H fun v => (PR n β).call tI (.fn g [] []) [v, .sc (.int .i64 k)] H fun k H => pBin .lss k (.sc (.int .i64 0)) fun b => pCond b (F H) (bodyH (PR n β) tS tI gT w _ _ F todo k H K)) = res
   rw [hpl, PR_call (vs := [(mkF (.sub fs) k (.ro m cs)).1, .sc (.int .i64 k)]) hh rfl (hhe tI m cs k hwc h0 (by omega)), instT_sc, List.append_nil]
   simp only
   rw [lss64, cond_b, if_neg (by simp; omega)]
   exact go H h (by omega) (by omega)
  | str =>
   have hc : ∃ s, c = .sc (.string s) := by
    cases c with
    | sc v => cases v <;> first | exact ⟨_, rfl⟩ | exact hwc.elim
    | _ => exact hwc.elim
   obtain ⟨v, rfl⟩ := hc
   have h1 : k + (1 + cntL (todo.map FD.f) R : Nat) ≤ 4611686018427387904 := h1
   have hpl' : ∀ K' : AV → Option β, (pIadr w (.ro len cells) (.sc (.int .i64 i)) fun t => fadrs (PR n β) path t fun t => pLoad false 1 t H K') = K' (.sc (.string (mTxt k))) := hpl
   show (pIadr w (.ro len cells) (.sc (.int .i64 i)) fun t => fadrs (PR n β) path t fun t => pLoad false 1 t H fun v => (PR n β).call tS (.fn gT [] []) [.sc (.int .i64 k)] H fun s H => pBin .neq v s fun b => pCond b (F H) (pBin .add (.sc (.int .i64 k)) (.sc (.int .i64 1)) fun k => bodyH (PR n β) tS tI gT w _ _ F todo k H K)) = res
   rw [hpl', call_txt hT h0 (by omega), neqS]
   simp only [beq_self_eq_true, Bool.not_true]
   rw [cond_b, if_neg (by simp), add1 _ _ h0 (by omega)]
   exact go H h (by show 0 ≤ k + 1; omega) (by show k + 1 + _ ≤ _; omega)
  | int =>
   have hc : ∃ z, c = .sc (.int .i64 z) := by
    cases c with
    | sc v => cases v with
     | int kd z => cases kd <;> first | exact ⟨_, rfl⟩ | exact hwc.elim
     | _ => exact hwc.elim
    | _ => exact hwc.elim
   obtain ⟨v, rfl⟩ := hc
   have h1 : k + (1 + cntL (todo.map FD.f) R : Nat) ≤ 4611686018427387904 := h1
   have hpl' : ∀ K' : AV → Option β, (pIadr w (.ro len cells) (.sc (.int .i64 i)) fun t => fadrs (PR n β) path t fun t => pLoad false 1 t H K') = K' (.sc (.int .i64 k)) := hpl
   show (pIadr w (.ro len cells) (.sc (.int .i64 i)) fun t => fadrs (PR n β) path t fun t => pLoad false 1 t H fun v => pBin .neq v (.sc (.int .i64 k)) fun b => pCond b (F H) (pBin .add (.sc (.int .i64 k)) (.sc (.int .i64 1)) fun k => bodyH (PR n β) tS tI gT w _ _ F todo k H K)) = res
   rw [hpl', neq64]
   simp only [bne_self_eq_false]
   rw [cond_b, if_neg (by simp), add1 _ _ h0 (by omega)]
   exact go H h (by show 0 ≤ k + 1; omega) (by show k + 1 + _ ≤ _; omega)
  | bool =>
   have hc : ∃ b, c = .sc (.bool b) := by
    cases c with
    | sc v => cases v <;> first | exact ⟨_, rfl⟩ | exact hwc.elim
    | _ => exact hwc.elim
   obtain ⟨v, rfl⟩ := hc
   have h1 : k + (1 + cntL (todo.map FD.f) R : Nat) ≤ 4611686018427387904 := h1
   have hpl' : ∀ K' : AV → Option β, (pIadr w (.ro len cells) (.sc (.int .i64 i)) fun t => fadrs (PR n β) path t fun t => pLoad false 1 t H K') = K' (.sc (.bool (k.tmod 3 == 0))) := hpl
   show (pIadr w (.ro len cells) (.sc (.int .i64 i)) fun t => fadrs (PR n β) path t fun t => pLoad false 1 t H fun v => pBinB .neq v (.sc (.bool (k.tmod 3 == 0))) fun b => pCond b (F H) (pBin .add (.sc (.int .i64 k)) (.sc (.int .i64 1)) fun k => bodyH (PR n β) tS tI gT w _ _ F todo k H K)) = res
   rw [hpl', neqB]
   simp only [beq_self_eq_true, Bool.not_true]
   rw [cond_b, if_neg (by simp), add1 _ _ h0 (by omega)]
   exact go H h (by show 0 ≤ k + 1; omega) (by show k + 1 + _ ≤ _; omega)
  | byt =>
   have hc : ∃ z, c = .sc (.int .u8 z) := by
    cases c with
    | sc v => cases v with
     | int kd z => cases kd <;> first | exact ⟨_, rfl⟩ | exact hwc.elim
     | _ => exact hwc.elim
    | _ => exact hwc.elim
   obtain ⟨v, rfl⟩ := hc
   have h1 : k + (1 + cntL (todo.map FD.f) R : Nat) ≤ 4611686018427387904 := h1
   have hpl' : ∀ K' : AV → Option β, (pIadr w (.ro len cells) (.sc (.int .i64 i)) fun t => fadrs (PR n β) path t fun t => pLoad false 1 t H K') = K' (.sc (.int .u8 (IntKind.u8.wrap k))) := hpl
   show (pIadr w (.ro len cells) (.sc (.int .i64 i)) fun t => fadrs (PR n β) path t fun t => pLoad false 1 t H fun v => pBin .neq v (.sc (.int .u8 (IntKind.u8.wrap k))) fun b => pCond b (F H) (pBin .add (.sc (.int .i64 k)) (.sc (.int .i64 1)) fun k => bodyH (PR n β) tS tI gT w _ _ F todo k H K)) = res
   rw [hpl']
   show pCond (.sc (.bool (IntKind.u8.wrap k != IntKind.u8.wrap k))) _ _ = res
   simp only [bne_self_eq_false]
   rw [cond_b, if_neg (by simp), add1 _ _ h0 (by omega)]
   exact go H h (by show 0 ≤ k + 1; omega) (by show k + 1 + _ ≤ _; omega)
theorem loop_h {tS tI gT w len : Nat} {fds : List FD} (hT : TxtOk n tS gT) (hf : FdsH n 0 fds) (hw : fds.length = w) (hw0 : 0 < w) (hlen : len ≤ 1048576) (cells : List AV) (L : Nat → AV → AV → AV → Heap → Option β) (kk : AV → Heap → Option β)
  (hL : ∀ m a k i H, L (m + 1) a k i H = pLen a fun t8 => pBin .lss i t8 fun t9 => pCond t9 (bodyH (PR n β) tS tI gT w a i (fun H => kk (.sc (.int .i64 (-1))) H) fds k H fun k' H => pBin .add i (.sc (.int .i64 1)) fun i' => L m a k' i' H) (kk k H)) :
  ∀ (r i m : Nat) (P S : List AV) (k : Int) (H : Heap), P.length = i * w → i + r = len → r < m → wfL (repF r (fds.map FD.f)) S → 0 ≤ k → k + cntL (repF r (fds.map FD.f)) S ≤ 4611686018427387904 → cells = P ++ (mkL (repF r (fds.map FD.f)) k S).1 →
   (∀ X, kk (.sc (.int .i64 (mkL (repF r (fds.map FD.f)) k S).2)) (H ++ X) = res) →
   L m (.ro len cells) (.sc (.int .i64 k)) (.sc (.int .i64 i)) H = res
 | 0, i, m + 1, P, S, k, H, hP, hr, hm, hwf, h0, h1, hc, h => by
  have hS : S = [] := by
   have := wfL_len hwf
   simp [repF] at this
   exact List.eq_nil_of_length_eq_zero this.symm
  subst hS
  obtain rfl : i = len := by omega
  rw [hL, len_ro, lss_nat, cond_b, if_neg (by simp)]
  have := h []
  simp only [List.append_nil, mkL] at this ⊢
  exact this
 | r + 1, i, m + 1, P, S, k, H, hP, hr, hm, hwf, h0, h1, hc, h => by
  have hi : i < len := by omega
  have hml : (fds.map FD.f).length = w := by simp [hw]
  have hSl : S.length = (r + 1) * w := by
   have := wfL_len hwf
   rw [repF_len, hml] at this
   exact this.symm
  obtain ⟨R, S', rfl, hRl⟩ : ∃ R S', S = R ++ S' ∧ R.length = w := ⟨S.take w, S.drop w, (List.take_append_drop w S).symm, by rw [List.length_take, hSl, Nat.succ_mul]; omega⟩
  rw [repF_succ] at hwf h1 h hc
  have hl : (fds.map FD.f).length = R.length := by rw [hml, hRl]
  obtain ⟨hwR, hwS⟩ := (wfL_append hl).1 hwf
  rw [cntL_append _ _ _ _ hl] at h1
  rw [mkL_append _ _ _ _ _ hl] at h hc
  have hkc := mkL_cnt R (fds.map FD.f) k
  have hRl' := mkL_len R (fds.map FD.f) k
  have hcl : i * w < cells.length := by
   rw [hc, List.length_append, List.length_append, hRl', hRl, hP]
   omega
  rw [hL, len_ro, lss_nat, cond_b, if_pos (by simpa using hi)]
  refine body_h (w := w) (tI := tI) hT hi cells hcl fds 0 P R (mkL (repF r (fds.map FD.f)) (mkL (fds.map FD.f) k R).2 S').1 k H _ hf (by rw [hP, Nat.add_zero]) hwR h0 (by omega) hc fun X => ?_
  rw [inc_nat _ _ (by omega)]
  exact loop_h hT hf hw hw0 hlen cells L kk hL r (i + 1) m (P ++ (mkL (fds.map FD.f) k R).1) S' (mkL (fds.map FD.f) k R).2 (H ++ X) (by rw [List.length_append, hP, hRl', hRl, Nat.succ_mul]) (by omega) (by omega) hwS (by omega) (by omega) (by rw [hc, List.append_assoc]) (fun Y => by
   have := h (X ++ Y)
   rw [List.append_assoc]
   exact this)
theorem held_ok {tS tI gT w f : Nat} {fds : List FD} (hh : plainF f = false) (hT : TxtOk n tS gT) (hf : FdsH n 0 fds) (hw : fds.length = w) (hw0 : 0 < w) (hn : 1048576 < n)
  (L : (AV → Heap → Option AV) → Nat → AV → AV → AV → Heap → Option AV)
  (hL : ∀ kk m a k i H, L kk (m + 1) a k i H = pLen a fun t8 => pBin .lss i t8 fun t9 => pCond t9 (bodyH (PR n AV) tS tI gT w a i (fun H => kk (.sc (.int .i64 (-1))) H) fds k H fun k' H => pBin .add i (.sc (.int .i64 1)) fun i' => L kk m a k' i' H) (kk k H))
  (hF : ∀ a b H kk, evalFn E0 (n + 1) AV f [a, b] H kk = L kk n a b (.sc (.int .i64 0)) H) : HeldOk (n + 1) f (fds.map FD.f) := by
 refine ⟨hh, fun ty len cells k hwf h0 hb => ?_⟩
 obtain ⟨hlen, hcl, hwl⟩ := (show len ≤ 1048576 ∧ cells.length = len * (fds.map FD.f).length ∧ wfL (repF len (fds.map FD.f)) cells from hwf)
 rw [tree_def, hF]
 exact loop_h (n := n) hT hf hw hw0 hlen (mkL (repF len (fds.map FD.f)) k cells).1 (L fun x H => ownTree ti0 E0.tp ty H x) (fun x H => ownTree ti0 E0.tp ty H x) (hL _) len 0 n [] cells k [] (by simp) (by omega) (by omega) hwl h0 hb rfl (fun X => rfl)
end Go.Proofs.YtdameggfgnpehaaGreatDoor.Abs
set_option linter.unusedVariables false
set_option linter.unusedSimpArgs false
namespace Go.Proofs.YtdameggfgnpehaaGreatDoor.Abs
open Go
section txt
theorem txt_fill (v : AV) (h : cellsA v = some [v]) : fillA [(.sc (.int .u8 0))] [(0, 1, v)] = some [v] := by
 simp [fillA, h, splice]
theorem txt_bytes (H : Heap) (b : UInt8) : content (H ++ [⟨[.sc (.int .u8 b.toNat)], true, true⟩]) 1 (.sl H.length 0 1 1) = some [.sc (.int .u8 b.toNat)] := by
 simp only [content, if_true, rdCells, get_at H _ []]
 rfl
theorem digs_pos {k : Nat} (h : ¬ k = 0) (out : ByteArray) : digs k out = digs (k / 10) (⟨#[UInt8.ofNat (48 + k % 10)]⟩ ++ out) := by
 rw [digs, dif_neg h]
theorem txt_loop {n ty : Nat} (L : Nat → AV → AV → Heap → Option AV)
  (hL : ∀ m k s H, L (m + 1) k s H = pBin .gtr k (.sc (.int .i64 0)) fun t7 => pCond t7 (pBin .rem k (.sc (.int .i64 10)) fun t9 => pBin .add (.sc (.int .i64 48)) t9 fun t10 => pCvI .u8 t10 fun t11 =>
   (fillA [(.sc (.int .u8 0))] [(0, 1, t11)]).bind fun ct12 => pNewSl 1 1 ct12 true H fun t12 H => pCvBS t12 H fun t13 => pBin .add t13 s fun t15 => pBin .quo k (.sc (.int .i64 10)) fun t17 => L m t17 t15 H)
   (pBin .add (.sc (.string ⟨#[109]⟩)) s fun t19 => ownTree ti0 E0.tp ty H t19)) :
  ∀ (b m k : Nat) (out : ByteArray) (H : Heap), k ≤ 4611686018427387904 → k < 10 ^ b → b < m → out.size + b ≤ 1000 → L m (.sc (.int .i64 k)) (.sc (.string out)) H = some (.sc (.string (⟨#[109]⟩ ++ digs k out)))
 | b, 0, k, out, H, hk0, h1, h2, h3 => by omega
 | b, m + 1, k, out, H, hk0, h1, h2, h3 => by
  rw [hL, gtr64, cond_b]
  by_cases hk : k = 0
  ·subst hk
   rw [if_neg (by simp)]
   have hs : (⟨#[109]⟩ : ByteArray).size + out.size ≤ 9223372036854775807 := by
    show 1 + out.size ≤ _
    omega
   show (binS .add ⟨#[109]⟩ out).bind _ = _
   simp only [binS, if_pos hs, Option.bind_some]
   rw [digs, dif_pos rfl]
   rfl
  ·rw [if_pos (by simp; omega)]
   have e9 : ∀ K : AV → Option AV, pBin .rem (.sc (.int .i64 (k : Int))) (.sc (.int .i64 10)) K = K (.sc (.int .i64 ((k % 10 : Nat) : Int))) := by
    intro K
    show K (.sc (.int .i64 ((k : Int).tmod 10))) = _
    rw [show ((k : Int).tmod 10) = ((k % 10 : Nat) : Int) from by
     rw [Int.tmod_eq_emod_of_nonneg (by omega)]; simp]
   have e10 : ∀ K : AV → Option AV, pBin .add (.sc (.int .i64 48)) (.sc (.int .i64 ((k % 10 : Nat) : Int))) K = K (.sc (.int .i64 ((48 + k % 10 : Nat) : Int))) := by
    intro K
    show K (.sc (.int .i64 (IntKind.i64.wrap (48 + ((k % 10 : Nat) : Int))))) = _
    rw [wrap64 _ (by omega) (by omega)]
    rfl
   have e11 : ∀ K : AV → Option AV, pCvI .u8 (.sc (.int .i64 ((48 + k % 10 : Nat) : Int))) K = K (.sc (.int .u8 ((UInt8.ofNat (48 + k % 10)).toNat : Int))) := by
    intro K
    show K (.sc (.int .u8 (IntKind.u8.wrap ((48 + k % 10 : Nat) : Int)))) = _
    have : (UInt8.ofNat (48 + k % 10)).toNat = 48 + k % 10 := by
     rw [UInt8.toNat_ofNat']
     omega
    rw [this]
    have hw : IntKind.u8.wrap ((48 + k % 10 : Nat) : Int) = ((48 + k % 10 : Nat) : Int) := by
     have h10 : k % 10 < 10 := Nat.mod_lt _ (by decide)
     unfold IntKind.wrap
     simp [IntKind.bits, IntKind.signed]
     omega
    rw [hw]
   have e17 : ∀ K : AV → Option AV, pBin .quo (.sc (.int .i64 (k : Int))) (.sc (.int .i64 10)) K = K (.sc (.int .i64 ((k / 10 : Nat) : Int))) := by
    intro K
    show K (.sc (.int .i64 (IntKind.i64.wrap ((k : Int).tdiv 10)))) = _
    rw [Int.tdiv_eq_ediv_of_nonneg (by omega), wrap64 _ (by omega) (by omega)]
    rfl
   rw [e9, e10, e11, txt_fill _ rfl]
   have hb : ((UInt8.ofNat (48 + k % 10)).toNat : Int).toNat = (UInt8.ofNat (48 + k % 10)).toNat := Int.toNat_natCast _
   have hbb : ([.sc (.int .u8 ((UInt8.ofNat (48 + k % 10)).toNat : Int))] : List AV).mapM byteOf = some [UInt8.ofNat (48 + k % 10)] := byteOf_bytes [UInt8.ofNat (48 + k % 10)]
   simp only [Option.bind_some, pNewSl, pCvBS, txt_bytes, hbb]
   have hs : (⟨#[UInt8.ofNat (48 + k % 10)]⟩ : ByteArray).size + out.size ≤ 9223372036854775807 := by
    show 1 + out.size ≤ _
    omega
   have e15 : ∀ K : AV → Option AV, pBin .add (.sc (.string ⟨[UInt8.ofNat (48 + k % 10)].toArray⟩)) (.sc (.string out)) K = K (.sc (.string (⟨#[UInt8.ofNat (48 + k % 10)]⟩ ++ out))) := by
    intro K
    show (binS .add ⟨#[UInt8.ofNat (48 + k % 10)]⟩ out).bind _ = _
    simp only [binS, if_pos hs, Option.bind_some]
   rw [e15, e17]
   cases b with
   | zero => simp at h1; omega
   | succ b =>
    have hk10 : k / 10 < 10 ^ b := by
     rw [Nat.pow_succ] at h1
     omega
    have hsz : (⟨#[UInt8.ofNat (48 + k % 10)]⟩ ++ out : ByteArray).size = 1 + out.size := by
     rw [ByteArray.size_append]
     rfl
    rw [txt_loop (n := n) (ty := ty) L hL b m (k / 10) _ _ (by omega) hk10 (by omega) (by rw [hsz]; omega)]
    rw [digs_pos hk out]
end txt
theorem txt_ok {n tS f : Nat} (hh : plainF f = false) (hn : 1048576 < n) (L : (AV → Heap → Option AV) → Nat → AV → AV → Heap → Option AV)
  (hL : ∀ kk m k s H, L kk (m + 1) k s H = pBin .gtr k (.sc (.int .i64 0)) fun t7 => pCond t7 (pBin .rem k (.sc (.int .i64 10)) fun t9 => pBin .add (.sc (.int .i64 48)) t9 fun t10 => pCvI .u8 t10 fun t11 =>
   (fillA [(.sc (.int .u8 0))] [(0, 1, t11)]).bind fun ct12 => pNewSl 1 1 ct12 true H fun t12 H => pCvBS t12 H fun t13 => pBin .add t13 s fun t15 => pBin .quo k (.sc (.int .i64 10)) fun t17 => L kk m t17 t15 H)
   (pBin .add (.sc (.string ⟨#[109]⟩)) s fun t19 => kk t19 H))
  (hF : ∀ a H kk, evalFn E0 (n + 1) AV f [a] H kk = pBin .leq a (.sc (.int .i64 0)) fun t5 => pCond t5 (kk (.sc (.string ⟨#[109, 48]⟩)) H) (L kk n a (.sc (.string ⟨#[]⟩)) H)) : TxtOk (n + 1) tS f := by
 refine ⟨hh, fun k h0 h1 => ?_⟩
 rw [tree_def, hF, leq64, cond_b]
 by_cases hk : k ≤ 0
 ·rw [if_pos (by simpa using hk), own_v, mTxt, if_pos hk]
  rfl
 ·rw [if_neg (by simpa using hk)]
  obtain ⟨m, rfl⟩ : ∃ m : Nat, k = m := ⟨k.toNat, by omega⟩
  have := txt_loop (n := n) (ty := tS) (L fun x H => ownTree ti0 E0.tp tS H x) (hL _) 19 n m ⟨#[]⟩ [] (by omega) (by omega) (by omega) (by decide)
  rw [this, mTxt, if_neg hk]
  rfl
inductive FV where
 | skip
 | sub (fs : List MF) (path : List Nat) (g : FuncId)
 | agg (l : List MF) (path : List Nat) (w : Nat) (g : FuncId)
def flatV : List FV → List MF
 | [] => []
 | .skip :: r => .skip :: flatV r
 | .sub fs _ _ :: r => .sub fs :: flatV r
 | .agg l _ _ _ :: r => l ++ flatV r
def MarkV (n g : Nat) (cty : List Nat) (fs : List MF) : Prop := E0.hm g = true ∧ E0.ext g = none ∧ ∀ (cs : List AV) (k : Int) (β : Type) (A C : Heap) (K : AV → Heap → Option β) (r : Option β), wfL fs cs → 0 ≤ k → k + cntL fs cs ≤ 4611686018427387904 →
 (∀ X, K (.sc (.int .i64 (mkL fs k cs).2)) (A ++ ((instL ti0 E0.tp A.length cty (mkL fs k cs).1).2 ++ (C ++ X))) = r) → evalFn E0 n β g [.agg (instL ti0 E0.tp A.length cty cs).1, .sc (.int .i64 k)] (A ++ ((instL ti0 E0.tp A.length cty cs).2 ++ C)) K = r
def HeldV (n g : Nat) (fs : List MF) : Prop := plainF g = false ∧ ∀ (ty : Nat) (cs : List AV) (k : Int), wfL fs cs → 0 ≤ k → k + cntL fs cs ≤ 4611686018427387904 → tree E0 n ty g [.agg (mkL fs k cs).1, .sc (.int .i64 k)] = some (.sc (.int .i64 (mkL fs k cs).2))
def isV : MF → Bool
 | .skip => true
 | .sub _ => true
 | _ => false
def FvM (n : Nat) : Nat → List FV → List Nat → Prop
 | _, [], [] => True
 | off, .skip :: r, _ :: ts => FvM n (off + 1) r ts
 | off, .sub fs path g :: r, t :: ts => path.sum = off ∧ MarkOk n g t fs ∧ FvM n (off + 1) r ts
 | off, .agg l path w g :: r, ts => path.sum = off ∧ l.length = w ∧ 0 < w ∧ l.all isV = true ∧ MarkV n g (ts.take w) l ∧ w ≤ ts.length ∧ FvM n (off + w) r (ts.drop w)
 | _, _, _ => False
def FvH (n : Nat) : Nat → List FV → Prop
 | _, [] => True
 | off, .skip :: r => FvH n (off + 1) r
 | off, .sub fs path g :: r => path.sum = off ∧ HeldOk n g fs ∧ FvH n (off + 1) r
 | off, .agg l path w g :: r => path.sum = off ∧ l.length = w ∧ 0 < w ∧ HeldV n g l ∧ FvH n (off + w) r
section fns
variable {β : Type}
def bodyV (p : Pr β) (tI : Nat) (x : AV) : List FV → AV → Heap → (AV → Heap → Option β) → Option β
 | [], k, H, K => K k H
 | .skip :: r, k, H, K => bodyV p tI x r k H K
 | .sub _ path g :: r, k, H, K => fadrs p path x fun t => p.load false 1 t H fun v => p.call tI (.fn g [] []) [v, k] H fun k H => bodyV p tI x r k H K
 | .agg _ path w g :: r, k, H, K => fadrs p path x fun t => p.load true w t H fun v => p.call tI (.fn g [] []) [v, k] H fun k H => bodyV p tI x r k H K
def bodyHV (p : Pr β) (tI : Nat) (x : AV) (F : Heap → Option β) : List FV → AV → Heap → (AV → Heap → Option β) → Option β
 | [], k, H, K => K k H
 | .skip :: r, k, H, K => bodyHV p tI x F r k H K
 | .sub _ path g :: r, k, H, K => fadrs p path x fun t => p.load false 1 t H fun v => p.call tI (.fn g [] []) [v, k] H fun k H => p.bin .lss k (.sc (.int .i64 0)) fun b => p.cond b (F H) (bodyHV p tI x F r k H K)
 | .agg _ path w g :: r, k, H, K => fadrs p path x fun t => p.load true w t H fun v => p.call tI (.fn g [] []) [v, k] H fun k H => p.bin .lss k (.sc (.int .i64 0)) fun b => p.cond b (F H) (bodyHV p tI x F r k H K)
variable {n : Nat} {res : Option β}
theorem mk_ro_same {t g : Nat} {n : Nat} {fs : List MF} (h : MarkOk n g t fs) (k : Int) (m : Nat) (cells : List AV) (M : Nat) : (instT ti0 E0.tp M t (mkF (.sub fs) k (.ro m cells)).1).1 = (instT ti0 E0.tp M t (.ro m cells)).1 := by
 obtain ⟨_, _, ⟨j1, j2, hj1, hj2⟩, _⟩ := h
 rw [inst_SB hj1 hj2]
 show (instT ti0 E0.tp M t (.ro m _)).1 = _
 rw [inst_SB hj1 hj2]
theorem mkL_same {ti : Nat → Option TI} {tp : Nat → Option (List Nat)} : ∀ (cs : List AV) (fs : List MF) (k : Int) (N : Nat) (ts : List Nat), fs.all isV = true → wfL fs cs → (instL ti tp N ts (mkL fs k cs).1).1 = (instL ti tp N ts cs).1
 | [], fs, k, N, ts, _, _ => by simp [mkL]
 | c :: cs, [], k, N, ts, _, hw => absurd rfl hw.1
 | c :: cs, f :: fs, k, N, ts, hv, hw => by
  obtain ⟨h1, h2⟩ := wfL_cons.1 hw
  rw [List.all_cons, Bool.and_eq_true] at hv
  have ih := mkL_same (ti := ti) (tp := tp) cs fs (mkF f k c).2 (N + nbT c) ts.tail hv.2 h2
  have hn := mkF_nb c f k
  have e : (instT ti tp N (ts.headD 0) (mkF f k c).1).1 = (instT ti tp N (ts.headD 0) c).1 := by
   cases c with
   | sc v => cases f <;> first | rfl | (exfalso; simpa [isV] using hv.1)
   | ro m cells => cases f <;> first | rfl | exact h1.elim
   | _ => exact h1.elim
  show (instT ti tp N (ts.headD 0) (mkF f k c).1).1 :: (instL ti tp (N + (instT ti tp N (ts.headD 0) (mkF f k c).1).2.length) ts.tail (mkL fs (mkF f k c).2 cs).1).1 = _ :: (instL ti tp (N + (instT ti tp N (ts.headD 0) c).2.length) ts.tail cs).1
  rw [inst_nb, inst_nb, e, hn, ih]
theorem body_v {tI idx : Nat} {ys : List AV} : ∀ (todo : List FV) (off : Nat) (Q R : List AV) (TP tR : List Nat) (k : Int) (A D : Heap) (K : AV → Heap → Option β),
  FvM n off todo tR → TP.length = Q.length → Q.length = off → wfL (flatV todo) R → 0 ≤ k → k + cntL (flatV todo) R ≤ 4611686018427387904 →
  (instL ti0 E0.tp A.length (TP ++ tR) (Q ++ R)).1 = ys → D[idx]? = some ⟨ys, true, true⟩ →
  (∀ X, K (.sc (.int .i64 (mkL (flatV todo) k R).2)) (A ++ ((instL ti0 E0.tp A.length (TP ++ tR) (Q ++ (mkL (flatV todo) k R).1)).2 ++ (D ++ X))) = res) →
  bodyV (PR n β) tI (.ptr (A.length + nbL (Q ++ R) + idx) 0) todo (.sc (.int .i64 k)) (A ++ ((instL ti0 E0.tp A.length (TP ++ tR) (Q ++ R)).2 ++ D)) K = res
 | [], off, Q, R, TP, tR, k, A, D, K, hf, hT, hq, hw, h0, h1, hy, hD, h => by
  cases R with
  | nil =>
   have := h []
   rw [List.append_nil D] at this
   exact this
  | cons c R => exact absurd rfl hw.1
 | .skip :: todo, off, Q, R, TP, tR, k, A, D, K, hf, hT, hq, hw, h0, h1, hy, hD, h => by
  cases R with
  | nil => exact absurd (show MF.skip :: flatV todo = [] from hw) (by simp)
  | cons c R =>
  cases tR with
  | nil => exact hf.elim
  | cons t tR =>
  obtain ⟨hwc, hwR⟩ := wfL_cons.1 (show wfL (MF.skip :: flatV todo) (c :: R) from hw)
  obtain ⟨v, rfl⟩ : ∃ v, c = .sc v := by
   cases c <;> first | exact ⟨_, rfl⟩ | exact hwc.elim
  have e1 : Q ++ .sc v :: R = (Q ++ [.sc v]) ++ R := by simp
  have e2 : TP ++ t :: tR = (TP ++ [t]) ++ tR := by simp
  have h1 : k + (0 + cntL (flatV todo) R : Nat) ≤ 4611686018427387904 := h1
  rw [e1, e2] at hy ⊢
  refine body_v todo (off + 1) (Q ++ [.sc v]) R (TP ++ [t]) tR k A D K hf (by simp [hT]) (by simp [hq]) hwR h0 (by omega) hy hD fun X => ?_
  have := h X
  rw [e2] at this
  simp only [List.append_assoc] at this ⊢
  exact this
 | .sub fs path g :: todo, off, Q, R, TP, tR, k, A, D, K, hf, hT, hq, hw, h0, h1, hy, hD, h => by
  cases R with
  | nil => exact absurd (show MF.sub fs :: flatV todo = [] from hw) (by simp)
  | cons c R =>
  cases tR with
  | nil => exact hf.elim
  | cons t tR =>
  obtain ⟨hpath, hmk, hrest⟩ := hf
  obtain ⟨hwc, hwR⟩ := wfL_cons.1 (show wfL (MF.sub fs :: flatV todo) (c :: R) from hw)
  obtain ⟨m, cells, rfl⟩ : ∃ m cells, c = .ro m cells := by
   cases c with
   | ro m cells => exact ⟨m, cells, rfl⟩
   | sc v => exact hwc.elim
   | _ => exact hwc.elim
  have h1 : k + (cntF (.sub fs) (.ro m cells) + cntL (flatV todo) R : Nat) ≤ 4611686018427387904 := h1
  have hk' := mkF_cnt (.ro m cells) (.sub fs) k
  have hn' := mkF_nb (.ro m cells) (.sub fs) k
  have hs' := mk_ro_same hmk k m cells
  have hmk2 := hmk.2.2.2 m cells k hwc h0 (by omega)
  have hl : (instL ti0 E0.tp A.length TP Q).1.length = Q.length := instL_len _ _ _
  have hsplit := fun (x : AV) => inst_mid (ti := ti0) (tp := E0.tp) TP tR t Q R x A.length hT
  rw [hsplit] at hy
  have hys : ys.drop off = (instT ti0 E0.tp (A.length + nbL Q) t (.ro m cells)).1 :: (instL ti0 E0.tp (A.length + nbL Q + nbT (.ro m cells)) tR R).1 := by
   rw [← hy, ← hq, ← hl, List.drop_append_of_le_length (Nat.le_refl _), List.drop_length, List.nil_append]
  have hlen : (instL ti0 E0.tp A.length (TP ++ t :: tR) (Q ++ .ro m cells :: R)).2.length = nbL (Q ++ .ro m cells :: R) := instL_nb _ _ _
  show (fadrs (PR n β) path (.ptr (A.length + nbL (Q ++ .ro m cells :: R) + idx) 0) fun t => pLoad false 1 t _ fun v => (PR n β).call tI (.fn g [] []) [v, .sc (.int .i64 k)] _ fun k H => bodyV (PR n β) tI _ todo k H K) = res
  rw [fadrs_ptr, hpath, Nat.zero_add]
  have hget : (A ++ ((instL ti0 E0.tp A.length (TP ++ t :: tR) (Q ++ .ro m cells :: R)).2 ++ D))[A.length + nbL (Q ++ .ro m cells :: R) + idx]? = some ⟨ys, true, true⟩ := by
   rw [List.getElem?_append_right (by omega), List.getElem?_append_right (by omega), hlen]
   rw [show A.length + nbL (Q ++ .ro m cells :: R) + idx - A.length - nbL (Q ++ .ro m cells :: R) = idx by omega]
   exact hD
  have hld : rdCells (A ++ ((instL ti0 E0.tp A.length (TP ++ t :: tR) (Q ++ .ro m cells :: R)).2 ++ D)) (A.length + nbL (Q ++ .ro m cells :: R) + idx) off 1 = some [(instT ti0 E0.tp (A.length + nbL Q) t (.ro m cells)).1] := by
   have hle : off + 1 ≤ ys.length := by
    have := congrArg List.length hys
    rw [List.length_drop, List.length_cons] at this
    omega
   simp only [rdCells, hget, if_true, hle, hys]
   rfl
  rw [ldF hld, PR_hm hmk.1 hmk.2.1]
  have e : ∀ (x : AV) (B : Heap), A ++ ((instL ti0 E0.tp A.length (TP ++ t :: tR) (Q ++ x :: R)).2 ++ B) = (A ++ (instL ti0 E0.tp A.length TP Q).2) ++ ((instT ti0 E0.tp (A.length + nbL Q) t x).2 ++ ((instL ti0 E0.tp (A.length + nbL Q + nbT x) tR R).2 ++ B)) := by
   intro x B
   simp only [hsplit, List.append_assoc]
  have hN : (A ++ (instL ti0 E0.tp A.length TP Q).2).length = A.length + nbL Q := by rw [List.length_append, instL_nb]
  rw [e]
  have key := hmk2 β (A ++ (instL ti0 E0.tp A.length TP Q).2) ((instL ti0 E0.tp (A.length + nbL Q + nbT (.ro m cells)) tR R).2 ++ D) (fun k H => bodyV (PR n β) tI (.ptr (A.length + nbL (Q ++ .ro m cells :: R) + idx) 0) todo k H K) res
  rw [hN] at key
  refine key fun X => ?_
  generalize hc' : (mkF (.sub fs) k (.ro m cells)).1 = c' at hn' hs' h ⊢
  have e1 : ∀ (Y : List AV), Q ++ c' :: Y = (Q ++ [c']) ++ Y := fun Y => by simp
  have e2 : TP ++ t :: tR = (TP ++ [t]) ++ tR := by simp
  have e3 : nbL (Q ++ .ro m cells :: R) = nbL ((Q ++ [c']) ++ R) := by
   rw [nbL_append, nbL_append, nbL_append]
   show nbL Q + (nbT (.ro m cells) + nbL R) = nbL Q + (nbT c' + 0) + nbL R
   rw [hn']
   omega
  have e4 := e c' (D ++ X)
  rw [hn'] at e4
  rw [List.append_assoc (instL ti0 E0.tp (A.length + nbL Q + nbT (.ro m cells)) tR R).2 D X, ← e4, e3, e2, e1 R]
  refine body_v (tI := tI) (idx := idx) (ys := ys) todo (off + 1) (Q ++ [c']) R (TP ++ [t]) tR (mkF (.sub fs) k (.ro m cells)).2 A (D ++ X) K hrest (by simp [hT]) (by simp [hq]) hwR (by omega) (by omega) ?_ ?_ fun Y => ?_
  ·rw [← e1, ← e2, hsplit, hs', hn', hy]
  ·rw [List.getElem?_append_left (List.getElem?_eq_some_iff.1 hD).1]
   exact hD
  ·have := h (X ++ Y)
   have hm : mkL (flatV (.sub fs path g :: todo)) k (.ro m cells :: R) = (c' :: (mkL (flatV todo) (mkF (.sub fs) k (.ro m cells)).2 R).1, (mkL (flatV todo) (mkF (.sub fs) k (.ro m cells)).2 R).2) := by rw [← hc']; rfl
   rw [hm, e2, e1] at this
   rw [List.append_assoc D X Y]
   exact this
 | .agg l path w g :: todo, off, Q, R, TP, tR, k, A, D, K, hf, hT, hq, hw, h0, h1, hy, hD, h => by
  obtain ⟨hpath, hlw, hw0, hlv, hmk, hwt, hrest⟩ := hf
  have hRlen : w ≤ R.length := by
   have := wfL_len (show wfL (l ++ flatV todo) R from hw)
   rw [List.length_append] at this
   omega
  obtain ⟨c, R, rfl, hcl⟩ : ∃ c R', R = c ++ R' ∧ c.length = w := ⟨R.take w, R.drop w, (List.take_append_drop w R).symm, by rw [List.length_take]; omega⟩
  obtain ⟨t, tR, rfl, htl⟩ : ∃ c R', tR = c ++ R' ∧ c.length = w := ⟨tR.take w, tR.drop w, (List.take_append_drop w tR).symm, by rw [List.length_take]; omega⟩
  rw [List.take_left' htl] at hmk
  rw [List.drop_left' htl] at hrest
  have hlc : l.length = c.length := by rw [hlw, hcl]
  obtain ⟨hwc, hwR⟩ := (wfL_append hlc).1 (show wfL (l ++ flatV todo) (c ++ R) from hw)
  have h1 : k + (cntL l c + cntL (flatV todo) R : Nat) ≤ 4611686018427387904 := by
   have := cntL_append l (flatV todo) c R hlc
   rw [← this]
   exact h1
  have hk' := mkL_cnt c l k
  have hn' := mkL_nb c l k
  have hl' := mkL_len c l k
  have hs' := fun N => mkL_same (ti := ti0) (tp := E0.tp) c l k N t hlv hwc
  have hl : (instL ti0 E0.tp A.length TP Q).1.length = Q.length := instL_len _ _ _
  have hsplit : ∀ x : List AV, x.length = c.length → instL ti0 E0.tp A.length (TP ++ (t ++ tR)) (Q ++ (x ++ R)) = ((instL ti0 E0.tp A.length TP Q).1 ++ ((instL ti0 E0.tp (A.length + nbL Q) t x).1 ++ (instL ti0 E0.tp (A.length + nbL Q + nbL x) tR R).1), (instL ti0 E0.tp A.length TP Q).2 ++ ((instL ti0 E0.tp (A.length + nbL Q) t x).2 ++ (instL ti0 E0.tp (A.length + nbL Q + nbL x) tR R).2)) := by
   intro x hx
   rw [instL_append TP Q (t ++ tR) (x ++ R) _ hT, instL_nb, instL_append t x tR R _ (by rw [htl, hx, hcl]), instL_nb]
  rw [hsplit c rfl] at hy
  have hil : (instL ti0 E0.tp (A.length + nbL Q) t c).1.length = w := by rw [instL_len, hcl]
  have hys : ys.drop off = (instL ti0 E0.tp (A.length + nbL Q) t c).1 ++ (instL ti0 E0.tp (A.length + nbL Q + nbL c) tR R).1 := by
   rw [← hy, ← hq, ← hl, List.drop_append_of_le_length (Nat.le_refl _), List.drop_length, List.nil_append]
  have hlen : (instL ti0 E0.tp A.length (TP ++ (t ++ tR)) (Q ++ (c ++ R))).2.length = nbL (Q ++ (c ++ R)) := instL_nb _ _ _
  show (fadrs (PR n β) path (.ptr (A.length + nbL (Q ++ (c ++ R)) + idx) 0) fun t => pLoad true w t _ fun v => (PR n β).call tI (.fn g [] []) [v, .sc (.int .i64 k)] _ fun k H => bodyV (PR n β) tI _ todo k H K) = res
  rw [fadrs_ptr, hpath, Nat.zero_add]
  have hget : (A ++ ((instL ti0 E0.tp A.length (TP ++ (t ++ tR)) (Q ++ (c ++ R))).2 ++ D))[A.length + nbL (Q ++ (c ++ R)) + idx]? = some ⟨ys, true, true⟩ := by
   rw [List.getElem?_append_right (by omega), List.getElem?_append_right (by omega), hlen]
   rw [show A.length + nbL (Q ++ (c ++ R)) + idx - A.length - nbL (Q ++ (c ++ R)) = idx by omega]
   exact hD
  have hld : rdCells (A ++ ((instL ti0 E0.tp A.length (TP ++ (t ++ tR)) (Q ++ (c ++ R))).2 ++ D)) (A.length + nbL (Q ++ (c ++ R)) + idx) off w = some (instL ti0 E0.tp (A.length + nbL Q) t c).1 := by
   have hle : off + w ≤ ys.length := by
    have := congrArg List.length hys
    rw [List.length_drop, List.length_append, hil] at this
    omega
   simp only [rdCells, hget, if_true, hle, hys]
   rw [List.take_left' hil]
  rw [ldT hld, PR_hm hmk.1 hmk.2.1]
  have e : ∀ (x : List AV) (B : Heap), x.length = c.length → A ++ ((instL ti0 E0.tp A.length (TP ++ (t ++ tR)) (Q ++ (x ++ R))).2 ++ B) = (A ++ (instL ti0 E0.tp A.length TP Q).2) ++ ((instL ti0 E0.tp (A.length + nbL Q) t x).2 ++ ((instL ti0 E0.tp (A.length + nbL Q + nbL x) tR R).2 ++ B)) := by
   intro x B hx
   simp only [hsplit x hx, List.append_assoc]
  have hN : (A ++ (instL ti0 E0.tp A.length TP Q).2).length = A.length + nbL Q := by rw [List.length_append, instL_nb]
  rw [e c _ rfl]
  have key := hmk.2.2 c k β (A ++ (instL ti0 E0.tp A.length TP Q).2) ((instL ti0 E0.tp (A.length + nbL Q + nbL c) tR R).2 ++ D) (fun k H => bodyV (PR n β) tI (.ptr (A.length + nbL (Q ++ (c ++ R)) + idx) 0) todo k H K) res hwc h0 (by omega)
  rw [hN] at key
  refine key fun X => ?_
  have hm : mkL (flatV (.agg l path w g :: todo)) k (c ++ R) = ((mkL l k c).1 ++ (mkL (flatV todo) (mkL l k c).2 R).1, (mkL (flatV todo) (mkL l k c).2 R).2) := mkL_append l (flatV todo) k c R hlc
  generalize hc' : (mkL l k c).1 = c' at hn' hl' hs' hm ⊢
  have e1 : ∀ (Y : List AV), Q ++ (c' ++ Y) = (Q ++ c') ++ Y := fun Y => by simp
  have e2 : TP ++ (t ++ tR) = (TP ++ t) ++ tR := by simp
  have e3 : nbL (Q ++ (c ++ R)) = nbL ((Q ++ c') ++ R) := by
   rw [nbL_append, nbL_append, nbL_append, nbL_append, hn']
   omega
  have e4 := e c' (D ++ X) hl'
  rw [hn'] at e4
  rw [List.append_assoc (instL ti0 E0.tp (A.length + nbL Q + nbL c) tR R).2 D X, ← e4, e3, e2, e1 R]
  refine body_v (tI := tI) (idx := idx) (ys := ys) todo (off + w) (Q ++ c') R (TP ++ t) tR (mkL l k c).2 A (D ++ X) K hrest (by simp [hT, htl, hl', hcl]) (by simp [hq, hl', hcl]) hwR (by omega) (by omega) ?_ ?_ fun Y => ?_
  ·rw [← e1, ← e2, hsplit _ hl', hs', hn', hy]
  ·rw [List.getElem?_append_left (List.getElem?_eq_some_iff.1 hD).1]
   exact hD
  ·have := h (X ++ Y)
   rw [hm, e2, e1] at this
   rw [List.append_assoc D X Y]
   exact this
theorem markv_ok {tI f : Nat} {cty : List Nat} {fvs : List FV} (hh : E0.hm f = true) (hx : E0.ext f = none) (hf : FvM n 0 fvs cty) (hv : (flatV fvs).all isV = true) (hlf : ∀ (cs : List AV) (N : Nat), wfL (flatV fvs) cs → (instL ti0 E0.tp N cty cs).1.all isLeaf = true)
  (hF : ∀ β a b H kk, evalFn E0 (n + 1) β f [a, b] H kk = pBox a H fun x H => bodyV (PR n β) tI x fvs b H kk) : MarkV (n + 1) f cty (flatV fvs) := by
 refine ⟨hh, hx, fun cs k β A C K r hw h0 hb h => ?_⟩
 rw [hF]
 have hc : cellsA (.agg (instL ti0 E0.tp A.length cty cs).1) = some (instL ti0 E0.tp A.length cty cs).1 := by
  show (if _ then _ else none) = _
  rw [if_pos (hlf cs _ hw)]
 simp only [pBox, hc, Option.bind_some, pNew]
 have hlen : (instL ti0 E0.tp A.length cty cs).2.length = nbL cs := instL_nb _ _ _
 have e1 : (A ++ ((instL ti0 E0.tp A.length cty cs).2 ++ C)).length = A.length + nbL ([] ++ cs) + C.length := by
  simp only [List.length_append, hlen, List.nil_append]
  omega
 rw [e1]
 have e2 : A ++ ((instL ti0 E0.tp A.length cty cs).2 ++ C) ++ [⟨(instL ti0 E0.tp A.length cty cs).1, true, true⟩] = A ++ ((instL ti0 E0.tp A.length ([] ++ cty) ([] ++ cs)).2 ++ (C ++ [⟨(instL ti0 E0.tp A.length cty cs).1, true, true⟩])) := by simp
 rw [e2]
 refine body_v fvs 0 [] cs [] cty k A _ K hf rfl rfl hw h0 hb rfl (by rw [List.getElem?_append_right (Nat.le_refl _), Nat.sub_self]; rfl) fun X => ?_
 have := h ([⟨(instL ti0 E0.tp A.length cty cs).1, true, true⟩] ++ X)
 simp only [List.append_assoc, List.nil_append] at this ⊢
 exact this
theorem body_hv {tI : Nat} {F : Heap → Option β} (cells : List AV) (hfl : cells.all isFl = true) : ∀ (todo : List FV) (off : Nat) (Q R : List AV) (k : Int) (H : Heap) (K : AV → Heap → Option β),
  FvH n off todo → Q.length = off → wfL (flatV todo) R → 0 ≤ k → k + cntL (flatV todo) R ≤ 4611686018427387904 → cells = Q ++ (mkL (flatV todo) k R).1 → H[0]? = some ⟨cells, true, true⟩ →
  (∀ X, K (.sc (.int .i64 (mkL (flatV todo) k R).2)) (H ++ X) = res) →
  bodyHV (PR n β) tI (.ptr 0 0) F todo (.sc (.int .i64 k)) H K = res
 | [], off, Q, R, k, H, K, hf, hq, hw, h0, h1, hc, hH, h => by
  cases R with
  | nil =>
   have := h []
   rw [List.append_nil H] at this
   exact this
  | cons c R => exact absurd rfl hw.1
 | .skip :: todo, off, Q, R, k, H, K, hf, hq, hw, h0, h1, hc, hH, h => by
  cases R with
  | nil => exact absurd (show MF.skip :: flatV todo = [] from hw) (by simp)
  | cons c R =>
  obtain ⟨hwc, hwR⟩ := wfL_cons.1 (show wfL (MF.skip :: flatV todo) (c :: R) from hw)
  obtain ⟨v, rfl⟩ : ∃ v, c = .sc v := by
   cases c <;> first | exact ⟨_, rfl⟩ | exact hwc.elim
  have h1 : k + (0 + cntL (flatV todo) R : Nat) ≤ 4611686018427387904 := h1
  exact body_hv cells hfl todo (off + 1) (Q ++ [.sc v]) R k H K hf (by simp [hq]) hwR h0 (by omega) (by rw [List.append_assoc]; exact hc) hH h
 | .sub fs path g :: todo, off, Q, R, k, H, K, hf, hq, hw, h0, h1, hc, hH, h => by
  cases R with
  | nil => exact absurd (show MF.sub fs :: flatV todo = [] from hw) (by simp)
  | cons c R =>
  obtain ⟨hpath, hhe, hrest⟩ := hf
  obtain ⟨hwc, hwR⟩ := wfL_cons.1 (show wfL (MF.sub fs :: flatV todo) (c :: R) from hw)
  obtain ⟨m, cs, rfl⟩ : ∃ m cells, c = .ro m cells := by
   cases c with
   | ro m cells => exact ⟨m, cells, rfl⟩
   | sc v => exact hwc.elim
   | _ => exact hwc.elim
  have h1 : k + (cntF (.sub fs) (.ro m cs) + cntL (flatV todo) R : Nat) ≤ 4611686018427387904 := h1
  have hk' := mkF_cnt (.ro m cs) (.sub fs) k
  have hm : mkL (flatV (.sub fs path g :: todo)) k (.ro m cs :: R) = ((mkF (.sub fs) k (.ro m cs)).1 :: (mkL (flatV todo) (mkF (.sub fs) k (.ro m cs)).2 R).1, (mkL (flatV todo) (mkF (.sub fs) k (.ro m cs)).2 R).2) := rfl
  rw [hm] at hc h
  have hld : rdCells H 0 off 1 = some [(mkF (.sub fs) k (.ro m cs)).1] := by
   have hle : off + 1 ≤ cells.length := by
    rw [hc, List.length_append, List.length_cons]
    omega
   have hd : (cells.drop off).take 1 = [(mkF (.sub fs) k (.ro m cs)).1] := by
    rw [hc, ← hq, List.drop_append_of_le_length (Nat.le_refl _), List.drop_length]
    rfl
   simp only [rdCells, hH, if_true, hle, hd]
  show (fadrs (PR n β) path (.ptr 0 0) fun t => pLoad false 1 t H fun v => (PR n β).call tI (.fn g [] []) [v, .sc (.int .i64 k)] H fun k H => pBin .lss k (.sc (.int .i64 0)) fun b => pCond b (F H) (bodyHV (PR n β) tI _ F todo k H K)) = res
  rw [fadrs_ptr, hpath, Nat.zero_add, ldF hld, PR_call (vs := [(mkF (.sub fs) k (.ro m cs)).1, .sc (.int .i64 k)]) hhe.1 rfl (hhe.2 tI m cs k hwc h0 (by omega)), instT_sc, List.append_nil]
  simp only
  rw [lss64, cond_b, if_neg (by simp; omega)]
  exact body_hv cells hfl todo (off + 1) (Q ++ [(mkF (.sub fs) k (.ro m cs)).1]) R _ H K hrest (by simp [hq]) hwR (by omega) (by omega) (by rw [List.append_assoc]; exact hc) hH h
 | .agg l path w g :: todo, off, Q, R, k, H, K, hf, hq, hw, h0, h1, hc, hH, h => by
  obtain ⟨hpath, hlw, hw0, hhe, hrest⟩ := hf
  have hRlen : w ≤ R.length := by
   have := wfL_len (show wfL (l ++ flatV todo) R from hw)
   rw [List.length_append] at this
   omega
  obtain ⟨c, R, rfl, hcl⟩ : ∃ c R', R = c ++ R' ∧ c.length = w := ⟨R.take w, R.drop w, (List.take_append_drop w R).symm, by rw [List.length_take]; omega⟩
  have hlc : l.length = c.length := by rw [hlw, hcl]
  obtain ⟨hwc, hwR⟩ := (wfL_append hlc).1 (show wfL (l ++ flatV todo) (c ++ R) from hw)
  have h1 : k + (cntL l c + cntL (flatV todo) R : Nat) ≤ 4611686018427387904 := by
   have := cntL_append l (flatV todo) c R hlc
   rw [← this]
   exact h1
  have hk' := mkL_cnt c l k
  have hl' := mkL_len c l k
  have hm : mkL (flatV (.agg l path w g :: todo)) k (c ++ R) = ((mkL l k c).1 ++ (mkL (flatV todo) (mkL l k c).2 R).1, (mkL (flatV todo) (mkL l k c).2 R).2) := mkL_append l (flatV todo) k c R hlc
  rw [hm] at hc h
  have hd : (cells.drop off).take w = (mkL l k c).1 := by
   rw [hc, ← hq, List.drop_append_of_le_length (Nat.le_refl _), List.drop_length, List.nil_append, List.take_left' (by rw [hl', hcl])]
  have hld : rdCells H 0 off w = some (mkL l k c).1 := by
   have hle : off + w ≤ cells.length := by
    rw [hc, List.length_append, List.length_append, hl', hcl]
    omega
   simp only [rdCells, hH, if_true, hle, hd]
  have hfc : (mkL l k c).1.all isFl = true := by
   rw [hc, List.all_append, List.all_append, Bool.and_eq_true, Bool.and_eq_true] at hfl
   exact hfl.2.1
  show (fadrs (PR n β) path (.ptr 0 0) fun t => pLoad true w t H fun v => (PR n β).call tI (.fn g [] []) [v, .sc (.int .i64 k)] H fun k H => pBin .lss k (.sc (.int .i64 0)) fun b => pCond b (F H) (bodyHV (PR n β) tI _ F todo k H K)) = res
  rw [fadrs_ptr, hpath, Nat.zero_add, ldT hld, PR_call (vs := [.agg (mkL l k c).1, .sc (.int .i64 k)]) hhe.1 (vcons (Vw_agg _ hfc) (vcons (Vw_sc _ _) vnil)) (hhe.2 tI c k hwc h0 (by omega)), instT_sc, List.append_nil]
  simp only
  rw [lss64, cond_b, if_neg (by simp; omega)]
  exact body_hv cells hfl todo (off + w) (Q ++ (mkL l k c).1) R _ H K hrest (by simp [hq, hl', hcl]) hwR (by omega) (by omega) (by rw [List.append_assoc]; exact hc) hH h
theorem mkL_fl : ∀ (cs : List AV) (fs : List MF) (k : Int), wfL fs cs → fs.all isV = true → (mkL fs k cs).1.all isFl = true
 | [], fs, k, _, _ => by simp [mkL]
 | c :: cs, [], k, hw, _ => absurd rfl hw.1
 | c :: cs, f :: fs, k, hw, hv => by
  obtain ⟨h1, h2⟩ := wfL_cons.1 hw
  rw [List.all_cons, Bool.and_eq_true] at hv
  rw [mkL_cons, List.all_cons, mkL_fl cs fs _ h2 hv.2, Bool.and_true]
  cases c with
  | sc v => cases f <;> first | exact h1 | (exfalso; simpa [isV] using hv.1) | exact h1.elim
  | ro m cells => cases f <;> first | rfl | exact h1.elim
  | _ => exact h1.elim
theorem heldv_ok {tI f : Nat} {fvs : List FV} (hh : plainF f = false) (hf : FvH n 0 fvs) (hv : (flatV fvs).all isV = true)
  (hF : ∀ a b H kk, evalFn E0 (n + 1) AV f [a, b] H kk = pBox a H fun x H => bodyHV (PR n AV) tI x (fun H => kk (.sc (.int .i64 (-1))) H) fvs b H kk) : HeldV (n + 1) f (flatV fvs) := by
 refine ⟨hh, fun ty cs k hw h0 hb => ?_⟩
 have hfl := mkL_fl cs (flatV fvs) k hw hv
 rw [tree_def, hF, box_fl _ _ _ hfl]
 exact body_hv (mkL (flatV fvs) k cs).1 hfl fvs 0 [] cs k _ _ hf rfl hw h0 hb rfl rfl (fun X => rfl)
end fns
end Go.Proofs.YtdameggfgnpehaaGreatDoor.Abs
set_option linter.unusedVariables false
set_option linter.unusedSimpArgs false
namespace Go.Proofs.YtdameggfgnpehaaGreatDoor.Abs
open Go
def AtT (H : Heap) (y : AV) (N ty : Nat) (t : AV) : Prop := y = (instT ti0 E0.tp N ty t).1 ∧ N + nbT t ≤ H.length ∧ Lies H N (instT ti0 E0.tp N ty t).2
def AtL (H : Heap) (ys : List AV) (N : Nat) (ts : List Nat) (cs : List AV) : Prop := ys = (instL ti0 E0.tp N ts cs).1 ∧ N + nbL cs ≤ H.length ∧ Lies H N (instL ti0 E0.tp N ts cs).2
def Kept (H H' : Heap) (N m : Nat) : Prop := H.length ≤ H'.length ∧ ∀ (i : Nat) b, H[i]? = some b → (i < N ∨ N + m ≤ i) → H'[i]? = some b
theorem Lies.grow {H : Heap} {N : Nat} {B : List Blk} (h : Lies H N B) (X : List Blk) : Lies (H ++ X) N B := fun j b hj => by
 have := h j b hj
 rw [List.getElem?_append_left (List.getElem?_eq_some_iff.1 this).1]
 exact this
theorem Lies.kept {H H' : Heap} {N M m : Nat} {B : List Blk} (h : Lies H N B) (k : Kept H H' M m) (hd : N + B.length ≤ M ∨ M + m ≤ N) : Lies H' N B := fun j b hj => by
 have hlt := (List.getElem?_eq_some_iff.1 hj).1
 exact k.2 _ b (h j b hj) (by omega)
theorem AtT.grow {H : Heap} {y : AV} {N ty : Nat} {t : AV} (h : AtT H y N ty t) (X : List Blk) : AtT (H ++ X) y N ty t := ⟨h.1, by rw [List.length_append]; have := h.2.1; omega, h.2.2.grow X⟩
theorem AtL.grow {H : Heap} {ys : List AV} {N : Nat} {ts : List Nat} {cs : List AV} (h : AtL H ys N ts cs) (X : List Blk) : AtL (H ++ X) ys N ts cs := ⟨h.1, by rw [List.length_append]; have := h.2.1; omega, h.2.2.grow X⟩
theorem AtT.kept {H H' : Heap} {y : AV} {N ty M m : Nat} {t : AV} (h : AtT H y N ty t) (k : Kept H H' M m) (hd : N + nbT t ≤ M ∨ M + m ≤ N) : AtT H' y N ty t := ⟨h.1, Nat.le_trans h.2.1 k.1, h.2.2.kept k (by rw [inst_nb]; exact hd)⟩
theorem AtL.kept {H H' : Heap} {ys : List AV} {N M m : Nat} {ts : List Nat} {cs : List AV} (h : AtL H ys N ts cs) (k : Kept H H' M m) (hd : N + nbL cs ≤ M ∨ M + m ≤ N) : AtL H' ys N ts cs := ⟨h.1, Nat.le_trans h.2.1 k.1, h.2.2.kept k (by rw [instL_nb]; exact hd)⟩
theorem blk_kept {H H' : Heap} {i M m : Nat} {b : Blk} (h : H[i]? = some b) (k : Kept H H' M m) (hd : i < M ∨ M + m ≤ i) : H'[i]? = some b := k.2 i b h hd
theorem AtL.cons {H : Heap} {ys : List AV} {N t : Nat} {ts : List Nat} {c : AV} {cs : List AV} (h : AtL H ys N (t :: ts) (c :: cs)) : ∃ y ys', ys = y :: ys' ∧ AtT H y N t c ∧ AtL H ys' (N + nbT c) ts cs := by
 obtain ⟨h1, h2, h3⟩ := h
 have h2 : N + (nbT c + nbL cs) ≤ H.length := h2
 have e : instL ti0 E0.tp N (t :: ts) (c :: cs) = ((instT ti0 E0.tp N t c).1 :: (instL ti0 E0.tp (N + nbT c) ts cs).1, (instT ti0 E0.tp N t c).2 ++ (instL ti0 E0.tp (N + nbT c) ts cs).2) := by
  rw [instL, inst_nb]
  rfl
 rw [e] at h1 h3
 refine ⟨_, _, h1, ⟨rfl, by omega, h3.left⟩, ⟨rfl, by omega, ?_⟩⟩
 have := h3.right
 rwa [inst_nb] at this
theorem AtL.nil {H : Heap} {ys : List AV} {N : Nat} {ts : List Nat} (h : AtL H ys N ts []) : ys = [] := h.1
theorem AtT.sc {H : Heap} {y : AV} {N ty : Nat} {v : Value} (h : AtT H y N ty (.sc v)) : y = .sc v := h.1
theorem AtT.agg {H : Heap} {y : AV} {N ty : Nat} {cs : List AV} {cty : List Nat} (h : AtT H y N ty (.agg cs)) (hty : ∃ i, ti0 ty = some i ∧ i.cty = cty) : ∃ ys, y = .agg ys ∧ AtL H ys N cty cs := by
 obtain ⟨i, hi, rfl⟩ := hty
 obtain ⟨h1, h2, h3⟩ := h
 rw [instT_agg, hi, Option.getD_some] at h1 h3
 exact ⟨_, h1, rfl, h2, h3⟩
theorem AtT.vw {H : Heap} {y : AV} {N ty : Nat} {t : AV} (h : AtT H y N ty t) (hok : okW ti0 E0.tp 8 ty t) : Vw H y t := fun X => by
 rw [h.1]
 exact view_inst 8 ty t N (okW_okTr 8 ty t hok) (h.2.2.grow X)
theorem AtL.vw {H : Heap} {ys : List AV} {N : Nat} {ts : List Nat} {cs : List AV} (h : AtL H ys N ts cs) (hok : okLW (okW ti0 E0.tp 7) ts cs) : Vw H (.agg ys) (.agg cs) := fun X => by
 rw [h.1, viewV_agg, view_instL (fun ty t N => view_inst 7 ty t N) cs ts N (okLW_okL (okW_okTr 7) hok) (h.2.2.grow X)]
 rfl
theorem AtL.leaf {H : Heap} {ys : List AV} {N : Nat} {ts : List Nat} {cs : List AV} (h : AtL H ys N ts cs) (hf : cs.all isFl = true) : ys.all isLeaf = true := by
 rw [h.1]
 exact instL_leaf _ _ _ hf
theorem AtL.len {H : Heap} {ys : List AV} {N : Nat} {ts : List Nat} {cs : List AV} (h : AtL H ys N ts cs) : ys.length = cs.length := by rw [h.1, instL_len]
theorem okLW_mk {d : Nat} (hd : ∀ ty x f k, okW ti0 E0.tp d ty x → okW ti0 E0.tp d ty (mkF f k x).1) : ∀ (cs : List AV) (ts : List Nat) (fs : List MF) (k : Int), okLW (okW ti0 E0.tp d) ts cs → okLW (okW ti0 E0.tp d) ts (mkL fs k cs).1
 | [], ts, fs, k, h => by simpa [mkL] using h
 | c :: cs, [], fs, k, h => h.elim
 | c :: cs, t :: ts, fs, k, h => ⟨hd _ _ _ _ h.1, okLW_mk hd cs ts fs.tail _ h.2⟩
theorem okW_mk : ∀ (d ty : Nat) (x : AV) (f : MF) (k : Int), okW ti0 E0.tp d ty x → okW ti0 E0.tp d ty (mkF f k x).1
 | 0, _, _, _, _, h => h
 | d + 1, ty, x, f, k, h => by
  cases x with
  | sc v => cases f <;> trivial
  | ro n cells =>
   cases f with
   | sub fs =>
    obtain ⟨i, j, h1, h2, h3, h4⟩ := h
    exact ⟨i, j, h1, h2, by rw [mkL_len]; exact h3, okLW_mk (okW_mk d) _ _ _ _ h4⟩
   | _ => exact h
  | _ => exact h
theorem okLW_mk7 {cs : List AV} {ts : List Nat} (fs : List MF) (k : Int) (h : okLW (okW ti0 E0.tp 7) ts cs) : okLW (okW ti0 E0.tp 7) ts (mkL fs k cs).1 := okLW_mk (okW_mk 7) cs ts fs k h
section steps
variable {β : Type} {n : Nat} {H : Heap} {r : Option β}
theorem lm_tree {ty f : Nat} {args vs : List AV} {t : AV} {K : AV → Heap → Option β} (hh : plainF f = false) (hv : args.mapM (viewV H 8) = some vs) (ht : tree E0 n ty f vs = some t) (h : ∀ y X N, N = H.length → AtT (H ++ X) y N ty t → K y (H ++ X) = r) : (PR n β).call ty (.fn f [] []) args H (fun x H => K x H) = r := by
 rw [PR_call hh hv ht]
 exact h _ _ _ rfl ⟨rfl, by rw [List.length_append, inst_nb]; exact Nat.le_refl _, Lies_end _ _⟩
theorem lm_tup {ty f : Nat} {args vs cs : List AV} {ts : List Nat} {K : AV → Heap → Option β} (hh : plainF f = false) (hv : args.mapM (viewV H 8) = some vs) (ht : tree E0 n ty f vs = some (.tup cs)) (hts : E0.tp ty = some ts) (h : ∀ ys X N, N = H.length → AtL (H ++ X) ys N ts cs → K (.tup ys) (H ++ X) = r) : (PR n β).call ty (.fn f [] []) args H (fun x H => K x H) = r := by
 rw [PR_call hh hv ht, instT_tup, hts, Option.getD_some]
 exact h _ _ _ rfl ⟨rfl, by rw [List.length_append, instL_nb]; exact Nat.le_refl _, Lies_end _ _⟩
theorem lm_agg {ty f : Nat} {args vs cs : List AV} {cty : List Nat} {K : AV → Heap → Option β} (hh : plainF f = false) (hv : args.mapM (viewV H 8) = some vs) (ht : tree E0 n ty f vs = some (.agg cs)) (hty : ∃ i, ti0 ty = some i ∧ i.cty = cty) (h : ∀ ys X N, N = H.length → AtL (H ++ X) ys N cty cs → K (.agg ys) (H ++ X) = r) : (PR n β).call ty (.fn f [] []) args H (fun x H => K x H) = r := by
 obtain ⟨i, hi, rfl⟩ := hty
 rw [PR_call hh hv ht, instT_agg, hi, Option.getD_some]
 exact h _ _ _ rfl ⟨rfl, by rw [List.length_append, instL_nb]; exact Nat.le_refl _, Lies_end _ _⟩
theorem lm_put {w : Nat} {z ys : List AV} {K : AV → Heap → Option β} (hz : z.length = w) (hy : ys.length = w) (hl : ys.all isLeaf = true) (h : ∀ i, i = H.length → (H ++ [⟨ys, true, true⟩])[i]? = some ⟨ys, true, true⟩ → K (.ptr i 0) (H ++ [⟨ys, true, true⟩]) = r) :
  pNew z H (fun t H => pStore w t (.agg ys) H fun H => K t H) = r := by
 have hg : (H ++ [(⟨z, true, true⟩ : Blk)])[H.length]? = some ⟨z, true, true⟩ := get_at H _ []
 have hc : cellsA (.agg ys) = some ys := by
  show (if ys.all isLeaf then some ys else none) = _
  rw [if_pos hl]
 show pStore w (.ptr H.length 0) (.agg ys) (H ++ [⟨z, true, true⟩]) _ = r
 rw [st_at w H.length 0 _ ⟨z, true, true⟩ ys _ _ hg hc hy (by rw [hz]; omega) rfl]
 have hs : splice z 0 ys = ys := by
  unfold splice
  rw [List.take_zero, List.nil_append, List.drop_of_length_le (by rw [hz, hy]; omega), List.append_nil]
 simp only [hs, set_at]
 exact h _ rfl (get_at H _ [])
theorem cut_at {N : Nat} {B : List Blk} (h1 : N + B.length ≤ H.length) (h2 : Lies H N B) : ∃ A C : Heap, A.length = N ∧ H = A ++ (B ++ C) := by
 refine ⟨H.take N, H.drop (N + B.length), by rw [List.length_take]; omega, ?_⟩
 have e : (H.drop N).take B.length = B := by
  apply List.ext_getElem?
  intro j
  by_cases hj : j < B.length
  ·rw [List.getElem?_take_of_lt hj, List.getElem?_drop]
   have hb : B[j]? = some (B[j]) := List.getElem?_eq_getElem hj
   rw [hb, h2 j _ hb]
  ·rw [List.getElem?_eq_none (by rw [List.length_take]; omega), List.getElem?_eq_none (by omega)]
 conv => lhs; rw [← List.take_append_drop N H, ← List.take_append_drop B.length (H.drop N), e, List.drop_drop]
theorem kept_at {A B B' C X : Heap} (hl : B'.length = B.length) : Kept (A ++ (B ++ C)) (A ++ (B' ++ (C ++ X))) A.length B.length := by
 refine ⟨by simp only [List.length_append, hl]; omega, fun i b h hd => ?_⟩
 rcases hd with hd | hd
 ·rw [List.getElem?_append_left hd] at h ⊢
  exact h
 ·rw [List.getElem?_append_right (by omega), List.getElem?_append_right (by omega)] at h ⊢
  rw [hl, List.getElem?_append_left (List.getElem?_eq_some_iff.1 h).1]
  exact h
theorem lm_mark {tI g ty N : Nat} {fs : List MF} {t : AV} {y : AV} {k : Int} {K : AV → Heap → Option β} (hmk : MarkOk n g ty fs) (hro : ∃ len cells, t = .ro len cells) (ha : AtT H y N ty t) (hw : wfF (.sub fs) t) (h0 : 0 ≤ k) (hb : k + cntF (.sub fs) t ≤ 4611686018427387904)
  (h : ∀ H', AtT H' y N ty (mkF (.sub fs) k t).1 → Kept H H' N (nbT t) → K (.sc (.int .i64 (k + cntF (.sub fs) t))) H' = r) : (PR n β).call tI (.fn g [] []) [y, .sc (.int .i64 k)] H (fun x H => K x H) = r := by
 obtain ⟨len, cells, rfl⟩ := hro
 obtain ⟨rfl, h2, h3⟩ := ha
 have hnb : ∀ M, (instT ti0 E0.tp M ty (.ro len cells)).2.length = nbT (.ro len cells) := fun M => inst_nb _ _ _
 obtain ⟨A, C, rfl, rfl⟩ := cut_at (by rw [hnb]; exact h2) h3
 rw [PR_hm hmk.1 hmk.2.1]
 refine hmk.2.2.2 len cells k hw h0 hb β A C _ r fun X => ?_
 rw [mkF_cnt]
 have hl : (instT ti0 E0.tp A.length ty (mkF (.sub fs) k (.ro len cells)).1).2.length = (instT ti0 E0.tp A.length ty (.ro len cells)).2.length := by rw [inst_nb, inst_nb, mkF_nb]
 refine h _ ⟨(mk_ro_same hmk k len cells A.length).symm, ?_, ?_⟩ ?_
 ·rw [mkF_nb]
  simp only [List.length_append, inst_nb, mkF_nb]
  omega
 ·have := Lies_in A (instT ti0 E0.tp A.length ty (mkF (.sub fs) k (.ro len cells)).1).2 (C ++ X)
  rwa [List.append_assoc] at this
 ·rw [← hnb A.length]
  exact kept_at hl
theorem lm_markv {tI g N : Nat} {cty : List Nat} {fs : List MF} {cs ys : List AV} {k : Int} {K : AV → Heap → Option β} (hmk : MarkV n g cty fs) (hv : fs.all isV = true) (ha : AtL H ys N cty cs) (hw : wfL fs cs) (h0 : 0 ≤ k) (hb : k + cntL fs cs ≤ 4611686018427387904)
  (h : ∀ H', AtL H' ys N cty (mkL fs k cs).1 → Kept H H' N (nbL cs) → K (.sc (.int .i64 (k + cntL fs cs))) H' = r) : (PR n β).call tI (.fn g [] []) [.agg ys, .sc (.int .i64 k)] H (fun x H => K x H) = r := by
 obtain ⟨rfl, h2, h3⟩ := ha
 have hnb : ∀ M, (instL ti0 E0.tp M cty cs).2.length = nbL cs := fun M => instL_nb _ _ _
 obtain ⟨A, C, rfl, rfl⟩ := cut_at (by rw [hnb]; exact h2) h3
 rw [PR_hm hmk.1 hmk.2.1]
 refine hmk.2.2 cs k β A C _ r hw h0 hb fun X => ?_
 rw [mkL_cnt]
 have hl : (instL ti0 E0.tp A.length cty (mkL fs k cs).1).2.length = (instL ti0 E0.tp A.length cty cs).2.length := by rw [instL_nb, instL_nb, mkL_nb]
 refine h _ ⟨(mkL_same cs fs k A.length cty hv hw).symm, ?_, ?_⟩ ?_
 ·rw [mkL_nb]
  simp only [List.length_append, instL_nb, mkL_nb]
  omega
 ·have := Lies_in A (instL ti0 E0.tp A.length cty (mkL fs k cs).1).2 (C ++ X)
  rwa [List.append_assoc] at this
 ·rw [← hnb A.length]
  exact kept_at hl
theorem lm_held {tI g : Nat} {fs : List MF} {t : AV} {y : AV} {k : Int} {K : AV → Heap → Option β} (hhe : HeldOk n g fs) (hro : ∃ len cells, t = .ro len cells) (hv : Vw H y (mkF (.sub fs) k t).1) (hw : wfF (.sub fs) t) (h0 : 0 ≤ k) (hb : k + cntF (.sub fs) t ≤ 4611686018427387904)
  {F : Heap → Option β} (h : K (.sc (.int .i64 (k + cntF (.sub fs) t))) H = r) : (PR n β).call tI (.fn g [] []) [y, .sc (.int .i64 k)] H (fun t H => pBin .lss t (.sc (.int .i64 0)) fun t' => pCond t' (F H) (K t H)) = r := by
 obtain ⟨len, cells, rfl⟩ := hro
 refine lw_sc hhe.1 (vcons hv (vcons (Vw_sc _ _) vnil)) (hhe.2 tI len cells k hw h0 hb) ?_
 rw [mkF_cnt, lss64, cond_b, if_neg (by simp; omega)]
 exact h
theorem lm_heldv {tI g : Nat} {fs : List MF} {cs : List AV} {y : AV} {k : Int} {K : AV → Heap → Option β} (hhe : HeldV n g fs) (hv : Vw H y (.agg (mkL fs k cs).1)) (hw : wfL fs cs) (h0 : 0 ≤ k) (hb : k + cntL fs cs ≤ 4611686018427387904)
  {F : Heap → Option β} (h : K (.sc (.int .i64 (k + cntL fs cs))) H = r) : (PR n β).call tI (.fn g [] []) [y, .sc (.int .i64 k)] H (fun t H => pBin .lss t (.sc (.int .i64 0)) fun t' => pCond t' (F H) (K t H)) = r := by
 refine lw_sc hhe.1 (vcons hv (vcons (Vw_sc _ _) vnil)) (hhe.2 tI cs k hw h0 hb) ?_
 rw [mkL_cnt, lss64, cond_b, if_neg (by simp; omega)]
 exact h
theorem lm_gf {m : (AV → Heap → Option β) → Option β} {k : AV → Heap → Option β} (h : m k = r) : pGuard (.sc (.bool false)) false H m k = r := h
theorem lm_pk {v : Value} {K : AV → Option β} (h : K (.sc v) = r) : pPick (.sc (.bool false)) (.sc (.bool true)) (.sc v) (fun t => K t) = r := h
theorem lm_not {b : Bool} {K : AV → Option β} (h : K (.sc (.bool (!b))) = r) : pUn .not (.sc (.bool b)) (fun t => K t) = r := h
theorem lm_cf {A K : Option β} (h : K = r) : pCond (.sc (.bool false)) A K = r := h
theorem lm_eq {ty f : Nat} {args vs : List AV} {K : AV → Heap → Option β} (hh : plainF f = false) (hv : args.mapM (viewV H 8) = some vs) (ht : tree E0 n ty f vs = some (.sc (.bool true))) (h : K (.sc (.bool true)) H = r) : (PR n β).call ty (.fn f [] []) args H (fun t H => K t H) = r := lw_sc hh hv ht h
theorem lm_neB {b : Bool} {K : AV → Option β} (h : K (.sc (.bool false)) = r) : pBinB .neq (.sc (.bool b)) (.sc (.bool b)) (fun t => K t) = r := by
 rw [neqB]
 cases b <;> exact h
theorem lm_neI {z : Int} {K : AV → Option β} (h : K (.sc (.bool false)) = r) : pBin .neq (.sc (.int .i64 z)) (.sc (.int .i64 z)) (fun t => K t) = r := by
 rw [neq64, bne_self_eq_false]
 exact h
theorem lm_neg {z : Int} {K : AV → Option β} (h0 : 0 ≤ z) (h : K (.sc (.bool false)) = r) : pBin .lss (.sc (.int .i64 z)) (.sc (.int .i64 0)) (fun t => K t) = r := by
 rw [lss64, show decide (z < 0) = false from by simp; omega]
 exact h
theorem lm_ex {vs : List AV} {i : Nat} {v : AV} {K : AV → Option β} (hi : vs[i]? = some v) (h : K v = r) : pExtr (.tup vs) i (fun t => K t) = r := by
 simp only [pExtr, hi, Option.bind_some]
 exact h
end steps
end Go.Proofs.YtdameggfgnpehaaGreatDoor.Abs
set_option linter.unusedVariables false
set_option linter.unusedSimpArgs false
set_option maxRecDepth 100000
namespace Go.Proofs.YtdameggfgnpehaaGreatDoor.Abs
open Go
variable {α : Type}
theorem wfv_fl : ∀ (cs : List AV) (fs : List MF), wfL fs cs → fs.all isV = true → cs.all isFl = true
 | [], fs, _, _ => rfl
 | c :: cs, [], hw, _ => absurd rfl hw.1
 | c :: cs, f :: fs, hw, hv => by
  obtain ⟨h1, h2⟩ := wfL_cons.1 hw
  rw [List.all_cons, Bool.and_eq_true] at hv
  rw [List.all_cons, wfv_fl cs fs h2 hv.2, Bool.and_true]
  cases c with
  | sc v => cases f <;> first | exact h1 | (exfalso; simpa [isV] using hv.1) | exact h1.elim
  | ro m cells => cases f <;> first | rfl | exact h1.elim
  | _ => exact h1.elim
theorem cnt_cc {f : MF} {fs : List MF} {c : AV} {cs : List AV} {a b : Nat} (h1 : cntF f c = a) (h2 : cntL fs cs = b) : cntL (f :: fs) (c :: cs) = a + b := by
 subst h1
 subst h2
 rfl
theorem mk_txt (n : Nat) (hn : 1048576 < n) : TxtOk (n + 1) 9 98 := txt_ok (n := n) rfl hn (fun kk => f98_l0 (PR n AV) n kk) (fun kk m k s H => rfl) (fun a H kk => f98_eq n a H kk)
def fdByteS : List FD := [⟨.byt, [], 0⟩]
def mfByteS : List MF := fdByteS.map FD.f
theorem mk_ByteS (n : Nat) (hn : 1048576 < n) : MarkOk (n + 2) 72 43 mfByteS :=
 mark_ok (n := n + 1) (tI := 3) (w := 1) (cty := [5]) (fds := fdByteS) rfl rfl (mk_txt n hn) ⟨rfl, trivial, trivial⟩ rfl ⟨_, _, rfl, rfl, rfl, rfl⟩ (by omega) (fun β kk => f72_l0 (PR (n + 1) β) (n + 1) kk) (fun β kk m a k i H => rfl) (fun β a b H kk => f72_eq (n + 1) a b H kk)
theorem hd_ByteS (n : Nat) (hn : 1048576 < n) : HeldOk (n + 2) 101 mfByteS :=
 held_ok (n := n + 1) (tI := 3) (w := 1) (fds := fdByteS) rfl (mk_txt n hn) ⟨rfl, trivial, trivial⟩ rfl (by decide) (by omega) (fun kk => f101_l0 (PR (n + 1) AV) (n + 1) kk) (fun kk m a k i H => rfl) (fun a b H kk => f101_eq (n + 1) a b H kk)
def fdIntS : List FD := [⟨.int, [], 0⟩]
def mfIntS : List MF := fdIntS.map FD.f
theorem mk_IntS (n : Nat) (hn : 1048576 < n) : MarkOk (n + 2) 64 26 mfIntS :=
 mark_ok (n := n + 1) (tI := 3) (w := 1) (cty := [3]) (fds := fdIntS) rfl rfl (mk_txt n hn) ⟨rfl, trivial, trivial⟩ rfl ⟨_, _, rfl, rfl, rfl, rfl⟩ (by omega) (fun β kk => f64_l0 (PR (n + 1) β) (n + 1) kk) (fun β kk m a k i H => rfl) (fun β a b H kk => f64_eq (n + 1) a b H kk)
theorem hd_IntS (n : Nat) (hn : 1048576 < n) : HeldOk (n + 2) 65 mfIntS :=
 held_ok (n := n + 1) (tI := 3) (w := 1) (fds := fdIntS) rfl (mk_txt n hn) ⟨rfl, trivial, trivial⟩ rfl (by decide) (by omega) (fun kk => f65_l0 (PR (n + 1) AV) (n + 1) kk) (fun kk m a k i H => rfl) (fun a b H kk => f65_eq (n + 1) a b H kk)
def fdStringS : List FD := [⟨.str, [], 0⟩]
def mfStringS : List MF := fdStringS.map FD.f
theorem mk_StringS (n : Nat) (hn : 1048576 < n) : MarkOk (n + 2) 100 73 mfStringS :=
 mark_ok (n := n + 1) (tI := 3) (w := 1) (cty := [9]) (fds := fdStringS) rfl rfl (mk_txt n hn) ⟨rfl, trivial, trivial⟩ rfl ⟨_, _, rfl, rfl, rfl, rfl⟩ (by omega) (fun β kk => f100_l0 (PR (n + 1) β) (n + 1) kk) (fun β kk m a k i H => rfl) (fun β a b H kk => f100_eq (n + 1) a b H kk)
theorem hd_StringS (n : Nat) (hn : 1048576 < n) : HeldOk (n + 2) 103 mfStringS :=
 held_ok (n := n + 1) (tI := 3) (w := 1) (fds := fdStringS) rfl (mk_txt n hn) ⟨rfl, trivial, trivial⟩ rfl (by decide) (by omega) (fun kk => f103_l0 (PR (n + 1) AV) (n + 1) kk) (fun kk m a k i H => rfl) (fun a b H kk => f103_eq (n + 1) a b H kk)
theorem wf_bytes (s : ByteArray) (h : s.size ≤ 1048576) : wfF (.sub mfByteS) (bytesC s) := by
 refine ⟨h, by rw [bytesAV_len]; show _ = s.size * 1; omega, ?_⟩
 have key : ∀ l : List UInt8, wfL (repF l.length mfByteS) (l.map fun b => .sc (.int .u8 b.toNat)) := by
  intro l
  induction l with
  | nil => rfl
  | cons b l ih =>
   rw [List.length_cons, repF_succ, List.map_cons]
   exact wfL_cons.2 ⟨trivial, ih⟩
 have := key s.data.toList
 rwa [show s.data.toList.length = s.size by simp] at this
theorem cnt_flat (f : MF) (e : α → Value) (h : ∀ x, cntF f (.sc (e x)) = 1) : ∀ l : List α, cntL (repF l.length [f]) (l.map fun x => .sc (e x)) = l.length
 | [] => rfl
 | x :: l => by
  rw [List.length_cons, repF_succ, List.map_cons]
  show cntF f (.sc (e x)) + cntL (repF l.length [f]) _ = _
  rw [h, cnt_flat f e h l]
  omega
theorem cnt_bytes (s : ByteArray) : cntF (.sub mfByteS) (bytesC s) = s.size := by
 have := cnt_flat .byt (fun b : UInt8 => .int .u8 b.toNat) (fun _ => rfl) s.data.toList
 rw [show s.data.toList.length = s.size by simp] at this
 exact this
theorem wf_ints (l : List Int) (h : l.length ≤ 1048576) : wfF (.sub mfIntS) (intsC l) := by
 refine ⟨h, by simp [mfIntS, fdIntS], ?_⟩
 clear h
 induction l with
 | nil => rfl
 | cons b l ih =>
  rw [List.length_cons, repF_succ, List.map_cons]
  exact wfL_cons.2 ⟨trivial, ih⟩
theorem cnt_ints (l : List Int) : cntF (.sub mfIntS) (intsC l) = l.length := cnt_flat .int (fun z : Int => .int .i64 z) (fun _ => rfl) l
theorem wf_strs (l : List ByteArray) (h : l.length ≤ 1048576) : wfF (.sub mfStringS) (strsC l) := by
 refine ⟨h, by simp [mfStringS, fdStringS], ?_⟩
 clear h
 induction l with
 | nil => rfl
 | cons b l ih =>
  rw [List.length_cons, repF_succ, List.map_cons]
  exact wfL_cons.2 ⟨trivial, ih⟩
theorem cnt_strs (l : List ByteArray) : cntF (.sub mfStringS) (strsC l) = l.length := cnt_flat .str (fun z : ByteArray => .string z) (fun _ => rfl) l
theorem smwS {wt : α → Nat} (sm : α → Prop) (hs : ∀ x, wt x ≤ 1048576 → sm x) (l : List α) (h : wtL wt l ≤ 1048576) : l.length ≤ 1048576 ∧ ∀ y ∈ l, sm y := by
 have h1 := wtL_eq wt l
 refine ⟨by omega, fun y hy => hs y ?_⟩
 have h2 := wtS_mem (wt := wt) hy
 omega
theorem wf_rows {enc : α → List AV} {fs : List MF} (l : List α) (h : l.length ≤ 1048576) (hw : ∀ x ∈ l, wfL fs (enc x)) : wfF (.sub fs) (rowsC enc l) := by
 have key : ∀ l : List α, (∀ x ∈ l, wfL fs (enc x)) → (l.map enc).flatten.length = l.length * fs.length ∧ wfL (repF l.length fs) (l.map enc).flatten := by
  intro l
  induction l with
  | nil => intro _; exact ⟨by simp, rfl⟩
  | cons x l ih =>
   intro hw
   obtain ⟨h1, h2⟩ := ih fun y hy => hw y (List.mem_cons_of_mem _ hy)
   have hx := hw x List.mem_cons_self
   have hl := wfL_len hx
   rw [List.map_cons, List.flatten_cons, List.length_cons, repF_succ]
   exact ⟨by rw [List.length_append, h1, ← hl, Nat.succ_mul]; omega, (wfL_append hl).2 ⟨hx, h2⟩⟩
 obtain ⟨h1, h2⟩ := key l hw
 exact ⟨h, h1, h2⟩
theorem cnt_rows {enc : α → List AV} {fs : List MF} {wt : α → Nat} : ∀ (l : List α), (∀ x ∈ l, fs.length = (enc x).length) → (∀ x ∈ l, cntL fs (enc x) ≤ 64 * (1 + wt x)) → cntF (.sub fs) (rowsC enc l) ≤ 64 * wtL wt l
 | [], _, _ => Nat.zero_le _
 | x :: l, hl, h => by
  have ih := cnt_rows l (fun y hy => hl y (List.mem_cons_of_mem _ hy)) (fun y hy => h y (List.mem_cons_of_mem _ hy))
  have hx := h x List.mem_cons_self
  show cntL (repF (l.length + 1) fs) (enc x ++ (l.map enc).flatten) ≤ _
  rw [repF_succ, cntL_append _ _ _ _ (hl x List.mem_cons_self), wtL]
  have ih : cntL (repF l.length fs) (l.map enc).flatten ≤ 64 * wtL wt l := ih
  omega
def fdMsgS : List FD := [⟨.str, [0], 0⟩, ⟨.sub mfByteS, [1], 72⟩, ⟨.int, [2], 0⟩, ⟨.bool, [3], 0⟩]
def fhMsgS : List FD := [⟨.str, [0], 0⟩, ⟨.sub mfByteS, [1], 101⟩, ⟨.int, [2], 0⟩, ⟨.bool, [3], 0⟩]
def mfMsgS : List MF := fdMsgS.map FD.f
def smMsg (x : MsgV) : Prop := x.fBody.size ≤ 1048576 ∧ True
theorem mk_MsgS (n : Nat) (hn : 1048576 < n) : MarkOk (n + 3) 97 31 mfMsgS :=
 mark_ok (n := n + 2) (tI := 3) (w := 4) (cty := ctyMsg) (fds := fdMsgS) rfl rfl (mk_txt (n + 1) (by omega)) ⟨rfl, trivial, ⟨rfl, mk_ByteS (n + 0) (by omega), ⟨rfl, trivial, ⟨rfl, trivial, trivial⟩⟩⟩⟩ rfl ⟨_, _, rfl, rfl, rfl, rfl⟩ (by omega) (fun β kk => f97_l0 (PR (n + 2) β) (n + 2) kk) (fun β kk m a k i H => rfl) (fun β a b H kk => f97_eq (n + 2) a b H kk)
theorem hd_MsgS (n : Nat) (hn : 1048576 < n) : HeldOk (n + 3) 115 mfMsgS :=
 held_ok (n := n + 2) (tI := 3) (w := 4) (fds := fhMsgS) rfl (mk_txt (n + 1) (by omega)) ⟨rfl, trivial, ⟨rfl, hd_ByteS (n + 0) (by omega), ⟨rfl, trivial, ⟨rfl, trivial, trivial⟩⟩⟩⟩ rfl (by decide) (by omega) (fun kk => f115_l0 (PR (n + 2) AV) (n + 2) kk) (fun kk m a k i H => rfl) (fun a b H kk => f115_eq (n + 2) a b H kk)
theorem smwMsg (x : MsgV) (h : wtMsg x ≤ 1048576) : smMsg x := by
 have h0 := h
 unfold wtMsg at h0
 exact ⟨by omega, trivial⟩
theorem wfMsg (x : MsgV) (h : smMsg x) : wfL mfMsgS (encMsg x) := by
 obtain ⟨h0, _⟩ := h
 exact wfL_cons.2 ⟨trivial, wfL_cons.2 ⟨wf_bytes _ h0, wfL_cons.2 ⟨trivial, wfL_cons.2 ⟨trivial, rfl⟩⟩⟩⟩
theorem cntMsg (x : MsgV) : cntL mfMsgS (encMsg x) ≤ 64 * (1 + wtMsg x) := by
 have c0 := cnt_bytes x.fBody
 show 1 + (cntF (.sub mfByteS) (bytesC x.fBody) + (1 + (1 + 0))) ≤ _
 unfold wtMsg
 omega
def fdFlightS : List FD := [⟨.int, [0], 0⟩, ⟨.str, [1, 0], 0⟩, ⟨.sub mfByteS, [1, 1], 72⟩, ⟨.int, [1, 2], 0⟩, ⟨.bool, [1, 3], 0⟩, ⟨.int, [5], 0⟩]
def fhFlightS : List FD := [⟨.int, [0], 0⟩, ⟨.str, [1, 0], 0⟩, ⟨.sub mfByteS, [1, 1], 101⟩, ⟨.int, [1, 2], 0⟩, ⟨.bool, [1, 3], 0⟩, ⟨.int, [5], 0⟩]
def mfFlightS : List MF := fdFlightS.map FD.f
def smFlight (x : FlightV) : Prop := x.fM.fBody.size ≤ 1048576 ∧ True
theorem mk_FlightS (n : Nat) (hn : 1048576 < n) : MarkOk (n + 3) 96 30 mfFlightS :=
 mark_ok (n := n + 2) (tI := 3) (w := 6) (cty := ctyFlight) (fds := fdFlightS) rfl rfl (mk_txt (n + 1) (by omega)) ⟨rfl, trivial, ⟨rfl, trivial, ⟨rfl, mk_ByteS (n + 0) (by omega), ⟨rfl, trivial, ⟨rfl, trivial, ⟨rfl, trivial, trivial⟩⟩⟩⟩⟩⟩ rfl ⟨_, _, rfl, rfl, rfl, rfl⟩ (by omega) (fun β kk => f96_l0 (PR (n + 2) β) (n + 2) kk) (fun β kk m a k i H => rfl) (fun β a b H kk => f96_eq (n + 2) a b H kk)
theorem hd_FlightS (n : Nat) (hn : 1048576 < n) : HeldOk (n + 3) 114 mfFlightS :=
 held_ok (n := n + 2) (tI := 3) (w := 6) (fds := fhFlightS) rfl (mk_txt (n + 1) (by omega)) ⟨rfl, trivial, ⟨rfl, trivial, ⟨rfl, hd_ByteS (n + 0) (by omega), ⟨rfl, trivial, ⟨rfl, trivial, ⟨rfl, trivial, trivial⟩⟩⟩⟩⟩⟩ rfl (by decide) (by omega) (fun kk => f114_l0 (PR (n + 2) AV) (n + 2) kk) (fun kk m a k i H => rfl) (fun a b H kk => f114_eq (n + 2) a b H kk)
theorem smwFlight (x : FlightV) (h : wtFlight x ≤ 1048576) : smFlight x := by
 have h0 := h
 unfold wtFlight wtMsg at h0
 exact ⟨by omega, trivial⟩
theorem wfFlight (x : FlightV) (h : smFlight x) : wfL mfFlightS (encFlight x) := by
 obtain ⟨h0, _⟩ := h
 exact wfL_cons.2 ⟨trivial, wfL_cons.2 ⟨trivial, wfL_cons.2 ⟨wf_bytes _ h0, wfL_cons.2 ⟨trivial, wfL_cons.2 ⟨trivial, wfL_cons.2 ⟨trivial, rfl⟩⟩⟩⟩⟩⟩
theorem cntFlight (x : FlightV) : cntL mfFlightS (encFlight x) ≤ 64 * (1 + wtFlight x) := by
 have c0 := cnt_bytes x.fM.fBody
 show 1 + (1 + (cntF (.sub mfByteS) (bytesC x.fM.fBody) + (1 + (1 + (1 + 0))))) ≤ _
 unfold wtFlight wtMsg
 omega
def fdOutS : List FD := [⟨.int, [0], 0⟩, ⟨.sub mfFlightS, [1], 96⟩, ⟨.sub mfMsgS, [2], 97⟩]
def fhOutS : List FD := [⟨.int, [0], 0⟩, ⟨.sub mfFlightS, [1], 114⟩, ⟨.sub mfMsgS, [2], 115⟩]
def mfOutS : List MF := fdOutS.map FD.f
def smOut (x : OutV) : Prop := (x.fFl.length ≤ 1048576 ∧ ∀ y ∈ x.fFl, smFlight y) ∧ (x.fQ.length ≤ 1048576 ∧ ∀ y ∈ x.fQ, smMsg y) ∧ True
theorem smwOut (x : OutV) (h : wtOut x ≤ 1048576) : smOut x := by
 have e0 := wtL_eq wtFlight x.fFl
 have e1 := wtL_eq wtMsg x.fQ
 have h0 := h
 unfold wtOut at h0
 exact ⟨smwS smFlight smwFlight _ (by omega), smwS smMsg smwMsg _ (by omega), trivial⟩
theorem wfOut (x : OutV) (h : smOut x) : wfL mfOutS (encOut x) := by
 obtain ⟨h0, h1, _⟩ := h
 exact wfL_cons.2 ⟨trivial, wfL_cons.2 ⟨wf_rows _ h0.1 fun y hy => wfFlight y (h0.2 y hy), wfL_cons.2 ⟨wf_rows _ h1.1 fun y hy => wfMsg y (h1.2 y hy), rfl⟩⟩⟩
theorem cntOut (x : OutV) : cntL mfOutS (encOut x) ≤ 64 * (1 + wtOut x) := by
 have c0 := cnt_rows (fs := mfFlightS) (wt := wtFlight) x.fFl (fun y _ => rfl) (fun y _ => cntFlight y)
 have c1 := cnt_rows (fs := mfMsgS) (wt := wtMsg) x.fQ (fun y _ => rfl) (fun y _ => cntMsg y)
 show 1 + (cntF (.sub mfFlightS) (rowsC encFlight x.fFl) + (cntF (.sub mfMsgS) (rowsC encMsg x.fQ) + 0)) ≤ _
 unfold wtOut
 omega
def fvOut : List FV := [.skip, .sub mfFlightS [1] 96, .sub mfMsgS [2] 97]
def fwOut : List FV := [.skip, .sub mfFlightS [1] 114, .sub mfMsgS [2] 115]
def mvOut : List MF := flatV fvOut
theorem wfvOut (x : OutV) (h : smOut x) : wfL mvOut (encOut x) := by
 obtain ⟨h0, h1, _⟩ := h
 exact wfL_cons.2 ⟨rfl, wfL_cons.2 ⟨wf_rows _ h0.1 fun y hy => wfFlight y (h0.2 y hy), wfL_cons.2 ⟨wf_rows _ h1.1 fun y hy => wfMsg y (h1.2 y hy), rfl⟩⟩⟩
theorem cntvOut (x : OutV) : cntL mvOut (encOut x) ≤ 64 * wtOut x := by
 have c0 := cnt_rows (fs := mfFlightS) (wt := wtFlight) x.fFl (fun y _ => rfl) (fun y _ => cntFlight y)
 have c1 := cnt_rows (fs := mfMsgS) (wt := wtMsg) x.fQ (fun y _ => rfl) (fun y _ => cntMsg y)
 show 0 + (cntF (.sub mfFlightS) (rowsC encFlight x.fFl) + (cntF (.sub mfMsgS) (rowsC encMsg x.fQ) + 0)) ≤ _
 unfold wtOut
 omega
theorem lf_Out : ∀ (cs : List AV) (N : Nat), wfL mvOut cs → (instL ti0 E0.tp N ctyOut cs).1.all isLeaf = true := fun cs N h => instL_leaf _ _ _ (wfv_fl cs mvOut h rfl)
theorem mk_OutV (n : Nat) (hn : 1048576 < n) : MarkV (n + 4) 41 ctyOut mvOut :=
 markv_ok (n := n + 3) (tI := 3) (fvs := fvOut) rfl rfl ⟨rfl, mk_FlightS (n + 0) (by omega), ⟨rfl, mk_MsgS (n + 0) (by omega), trivial⟩⟩ rfl lf_Out (fun β a b H kk => f41_eq (n + 3) a b H kk)
theorem hd_OutV (n : Nat) (hn : 1048576 < n) : HeldV (n + 4) 48 mvOut :=
 heldv_ok (n := n + 3) (tI := 3) (fvs := fwOut) rfl ⟨rfl, hd_FlightS (n + 0) (by omega), ⟨rfl, hd_MsgS (n + 0) (by omega), trivial⟩⟩ rfl (fun a b H kk => f48_eq (n + 3) a b H kk)
def fdWantS : List FD := [⟨.str, [0], 0⟩, ⟨.int, [1], 0⟩]
def fhWantS : List FD := [⟨.str, [0], 0⟩, ⟨.int, [1], 0⟩]
def mfWantS : List MF := fdWantS.map FD.f
def smWant (x : WantV) : Prop := True
theorem mk_WantS (n : Nat) (hn : 1048576 < n) : MarkOk (n + 2) 99 72 mfWantS :=
 mark_ok (n := n + 1) (tI := 3) (w := 2) (cty := ctyWant) (fds := fdWantS) rfl rfl (mk_txt (n + 0) (by omega)) ⟨rfl, trivial, ⟨rfl, trivial, trivial⟩⟩ rfl ⟨_, _, rfl, rfl, rfl, rfl⟩ (by omega) (fun β kk => f99_l0 (PR (n + 1) β) (n + 1) kk) (fun β kk m a k i H => rfl) (fun β a b H kk => f99_eq (n + 1) a b H kk)
theorem hd_WantS (n : Nat) (hn : 1048576 < n) : HeldOk (n + 2) 102 mfWantS :=
 held_ok (n := n + 1) (tI := 3) (w := 2) (fds := fhWantS) rfl (mk_txt (n + 0) (by omega)) ⟨rfl, trivial, ⟨rfl, trivial, trivial⟩⟩ rfl (by decide) (by omega) (fun kk => f102_l0 (PR (n + 1) AV) (n + 1) kk) (fun kk m a k i H => rfl) (fun a b H kk => f102_eq (n + 1) a b H kk)
theorem smwWant (x : WantV) (h : wtWant x ≤ 1048576) : smWant x := by
 have h0 := h
 unfold wtWant at h0
 exact trivial
theorem wfWant (x : WantV) (h : smWant x) : wfL mfWantS (encWant x) := by
 exact wfL_cons.2 ⟨trivial, wfL_cons.2 ⟨trivial, rfl⟩⟩
theorem cntWant (x : WantV) : cntL mfWantS (encWant x) ≤ 64 * (1 + wtWant x) := by
 show 1 + (1 + 0) ≤ _
 unfold wtWant
 omega
def fdPacketS : List FD := [⟨.int, [0], 0⟩, ⟨.bool, [1], 0⟩, ⟨.int, [2], 0⟩, ⟨.bool, [3], 0⟩, ⟨.int, [4], 0⟩, ⟨.str, [5], 0⟩, ⟨.sub mfByteS, [6], 72⟩, ⟨.str, [7], 0⟩, ⟨.int, [8], 0⟩, ⟨.bool, [9], 0⟩, ⟨.int, [10], 0⟩, ⟨.bool, [11], 0⟩, ⟨.str, [12], 0⟩, ⟨.sub mfByteS, [13], 72⟩, ⟨.int, [14], 0⟩, ⟨.bool, [15], 0⟩, ⟨.bool, [16], 0⟩, ⟨.str, [17], 0⟩, ⟨.bool, [18], 0⟩, ⟨.sub mfByteS, [19], 72⟩, ⟨.int, [20], 0⟩, ⟨.bool, [21], 0⟩, ⟨.sub mfWantS, [22], 99⟩, ⟨.sub mfStringS, [23], 100⟩, ⟨.sub mfIntS, [24], 64⟩]
def fhPacketS : List FD := [⟨.int, [0], 0⟩, ⟨.bool, [1], 0⟩, ⟨.int, [2], 0⟩, ⟨.bool, [3], 0⟩, ⟨.int, [4], 0⟩, ⟨.str, [5], 0⟩, ⟨.sub mfByteS, [6], 101⟩, ⟨.str, [7], 0⟩, ⟨.int, [8], 0⟩, ⟨.bool, [9], 0⟩, ⟨.int, [10], 0⟩, ⟨.bool, [11], 0⟩, ⟨.str, [12], 0⟩, ⟨.sub mfByteS, [13], 101⟩, ⟨.int, [14], 0⟩, ⟨.bool, [15], 0⟩, ⟨.bool, [16], 0⟩, ⟨.str, [17], 0⟩, ⟨.bool, [18], 0⟩, ⟨.sub mfByteS, [19], 101⟩, ⟨.int, [20], 0⟩, ⟨.bool, [21], 0⟩, ⟨.sub mfWantS, [22], 102⟩, ⟨.sub mfStringS, [23], 103⟩, ⟨.sub mfIntS, [24], 65⟩]
def mfPacketS : List MF := fdPacketS.map FD.f
def smPacket (x : PacketV) : Prop := x.fBody.size ≤ 1048576 ∧ x.fWBody.size ≤ 1048576 ∧ x.fPass.size ≤ 1048576 ∧ (x.fWants.length ≤ 1048576 ∧ ∀ y ∈ x.fWants, smWant y) ∧ x.fNames.length ≤ 1048576 ∧ x.fCodes.length ≤ 1048576 ∧ True
theorem smwPacket (x : PacketV) (h : wtPacket x ≤ 1048576) : smPacket x := by
 have e3 := wtL_eq wtWant x.fWants
 have e4 := wtL_eq ByteArray.size x.fNames
 have h0 := h
 unfold wtPacket at h0
 exact ⟨by omega, by omega, by omega, smwS smWant smwWant _ (by omega), by omega, by omega, trivial⟩
theorem wfPacket (x : PacketV) (h : smPacket x) : wfL mfPacketS (encPacket x) := by
 obtain ⟨h0, h1, h2, h3, h4, h5, _⟩ := h
 exact wfL_cons.2 ⟨trivial, wfL_cons.2 ⟨trivial, wfL_cons.2 ⟨trivial, wfL_cons.2 ⟨trivial, wfL_cons.2 ⟨trivial, wfL_cons.2 ⟨trivial, wfL_cons.2 ⟨wf_bytes _ h0, wfL_cons.2 ⟨trivial, wfL_cons.2 ⟨trivial, wfL_cons.2 ⟨trivial, wfL_cons.2 ⟨trivial, wfL_cons.2 ⟨trivial, wfL_cons.2 ⟨trivial, wfL_cons.2 ⟨wf_bytes _ h1, wfL_cons.2 ⟨trivial, wfL_cons.2 ⟨trivial, wfL_cons.2 ⟨trivial, wfL_cons.2 ⟨trivial, wfL_cons.2 ⟨trivial, wfL_cons.2 ⟨wf_bytes _ h2, wfL_cons.2 ⟨trivial, wfL_cons.2 ⟨trivial, wfL_cons.2 ⟨wf_rows _ h3.1 fun y hy => wfWant y (h3.2 y hy), wfL_cons.2 ⟨wf_strs _ h4, wfL_cons.2 ⟨wf_ints _ h5, rfl⟩⟩⟩⟩⟩⟩⟩⟩⟩⟩⟩⟩⟩⟩⟩⟩⟩⟩⟩⟩⟩⟩⟩⟩⟩
theorem cntPacket (x : PacketV) : cntL mfPacketS (encPacket x) ≤ 64 * (1 + wtPacket x) := by
 have c0 := cnt_bytes x.fBody
 have c1 := cnt_bytes x.fWBody
 have c2 := cnt_bytes x.fPass
 have c3 := cnt_rows (fs := mfWantS) (wt := wtWant) x.fWants (fun y _ => rfl) (fun y _ => cntWant y)
 have c4 := cnt_strs x.fNames
 have c5 := cnt_ints x.fCodes
 have e4 := wtL_eq ByteArray.size x.fNames
 obtain ⟨u, hu⟩ : ∃ u : Nat, u = 1 := ⟨_, rfl⟩
 have cE : cntL mfPacketS (encPacket x) = u + (u + (u + (u + (u + (u + (cntF (.sub mfByteS) (bytesC x.fBody) + (u + (u + (u + (u + (u + (u + (cntF (.sub mfByteS) (bytesC x.fWBody) + (u + (u + (u + (u + (u + (cntF (.sub mfByteS) (bytesC x.fPass) + (u + (u + (cntF (.sub mfWantS) (rowsC encWant x.fWants) + (cntF (.sub mfStringS) (strsC x.fNames) + (cntF (.sub mfIntS) (intsC x.fCodes) + 0)))))))))))))))))))))))) := by
  subst hu
  exact cnt_cc rfl (cnt_cc rfl (cnt_cc rfl (cnt_cc rfl (cnt_cc rfl (cnt_cc rfl (cnt_cc rfl (cnt_cc rfl (cnt_cc rfl (cnt_cc rfl (cnt_cc rfl (cnt_cc rfl (cnt_cc rfl (cnt_cc rfl (cnt_cc rfl (cnt_cc rfl (cnt_cc rfl (cnt_cc rfl (cnt_cc rfl (cnt_cc rfl (cnt_cc rfl (cnt_cc rfl (cnt_cc rfl (cnt_cc rfl (cnt_cc rfl (rfl)))))))))))))))))))))))))
 rw [cE]
 clear cE
 generalize cntF (.sub mfByteS) (bytesC x.fBody) = a0 at c0 ⊢
 generalize cntF (.sub mfByteS) (bytesC x.fWBody) = a1 at c1 ⊢
 generalize cntF (.sub mfByteS) (bytesC x.fPass) = a2 at c2 ⊢
 generalize cntF (.sub mfWantS) (rowsC encWant x.fWants) = a3 at c3 ⊢
 generalize cntF (.sub mfStringS) (strsC x.fNames) = a4 at c4 ⊢
 generalize cntF (.sub mfIntS) (intsC x.fCodes) = a5 at c5 ⊢
 unfold wtPacket
 simp only [← Nat.add_assoc, Nat.add_zero, Nat.mul_add]
 omega
def fvPacket : List FV := [.skip, .skip, .skip, .skip, .skip, .skip, .sub mfByteS [6] 72, .skip, .skip, .skip, .skip, .skip, .skip, .sub mfByteS [13] 72, .skip, .skip, .skip, .skip, .skip, .sub mfByteS [19] 72, .skip, .skip, .sub mfWantS [22] 99, .sub mfStringS [23] 100, .sub mfIntS [24] 64]
def fwPacket : List FV := [.skip, .skip, .skip, .skip, .skip, .skip, .sub mfByteS [6] 101, .skip, .skip, .skip, .skip, .skip, .skip, .sub mfByteS [13] 101, .skip, .skip, .skip, .skip, .skip, .sub mfByteS [19] 101, .skip, .skip, .sub mfWantS [22] 102, .sub mfStringS [23] 103, .sub mfIntS [24] 65]
def mvPacket : List MF := flatV fvPacket
theorem wfvPacket (x : PacketV) (h : smPacket x) : wfL mvPacket (encPacket x) := by
 obtain ⟨h0, h1, h2, h3, h4, h5, _⟩ := h
 exact wfL_cons.2 ⟨rfl, wfL_cons.2 ⟨rfl, wfL_cons.2 ⟨rfl, wfL_cons.2 ⟨rfl, wfL_cons.2 ⟨rfl, wfL_cons.2 ⟨rfl, wfL_cons.2 ⟨wf_bytes _ h0, wfL_cons.2 ⟨rfl, wfL_cons.2 ⟨rfl, wfL_cons.2 ⟨rfl, wfL_cons.2 ⟨rfl, wfL_cons.2 ⟨rfl, wfL_cons.2 ⟨rfl, wfL_cons.2 ⟨wf_bytes _ h1, wfL_cons.2 ⟨rfl, wfL_cons.2 ⟨rfl, wfL_cons.2 ⟨rfl, wfL_cons.2 ⟨rfl, wfL_cons.2 ⟨rfl, wfL_cons.2 ⟨wf_bytes _ h2, wfL_cons.2 ⟨rfl, wfL_cons.2 ⟨rfl, wfL_cons.2 ⟨wf_rows _ h3.1 fun y hy => wfWant y (h3.2 y hy), wfL_cons.2 ⟨wf_strs _ h4, wfL_cons.2 ⟨wf_ints _ h5, rfl⟩⟩⟩⟩⟩⟩⟩⟩⟩⟩⟩⟩⟩⟩⟩⟩⟩⟩⟩⟩⟩⟩⟩⟩⟩
theorem cntvPacket (x : PacketV) : cntL mvPacket (encPacket x) ≤ 64 * wtPacket x := by
 have c0 := cnt_bytes x.fBody
 have c1 := cnt_bytes x.fWBody
 have c2 := cnt_bytes x.fPass
 have c3 := cnt_rows (fs := mfWantS) (wt := wtWant) x.fWants (fun y _ => rfl) (fun y _ => cntWant y)
 have c4 := cnt_strs x.fNames
 have c5 := cnt_ints x.fCodes
 have e4 := wtL_eq ByteArray.size x.fNames
 obtain ⟨u, hu⟩ : ∃ u : Nat, u = 0 := ⟨_, rfl⟩
 have cE : cntL mvPacket (encPacket x) = u + (u + (u + (u + (u + (u + (cntF (.sub mfByteS) (bytesC x.fBody) + (u + (u + (u + (u + (u + (u + (cntF (.sub mfByteS) (bytesC x.fWBody) + (u + (u + (u + (u + (u + (cntF (.sub mfByteS) (bytesC x.fPass) + (u + (u + (cntF (.sub mfWantS) (rowsC encWant x.fWants) + (cntF (.sub mfStringS) (strsC x.fNames) + (cntF (.sub mfIntS) (intsC x.fCodes) + 0)))))))))))))))))))))))) := by
  subst hu
  exact cnt_cc rfl (cnt_cc rfl (cnt_cc rfl (cnt_cc rfl (cnt_cc rfl (cnt_cc rfl (cnt_cc rfl (cnt_cc rfl (cnt_cc rfl (cnt_cc rfl (cnt_cc rfl (cnt_cc rfl (cnt_cc rfl (cnt_cc rfl (cnt_cc rfl (cnt_cc rfl (cnt_cc rfl (cnt_cc rfl (cnt_cc rfl (cnt_cc rfl (cnt_cc rfl (cnt_cc rfl (cnt_cc rfl (cnt_cc rfl (cnt_cc rfl (rfl)))))))))))))))))))))))))
 rw [cE]
 clear cE
 generalize cntF (.sub mfByteS) (bytesC x.fBody) = a0 at c0 ⊢
 generalize cntF (.sub mfByteS) (bytesC x.fWBody) = a1 at c1 ⊢
 generalize cntF (.sub mfByteS) (bytesC x.fPass) = a2 at c2 ⊢
 generalize cntF (.sub mfWantS) (rowsC encWant x.fWants) = a3 at c3 ⊢
 generalize cntF (.sub mfStringS) (strsC x.fNames) = a4 at c4 ⊢
 generalize cntF (.sub mfIntS) (intsC x.fCodes) = a5 at c5 ⊢
 unfold wtPacket
 simp only [← Nat.add_assoc, Nat.add_zero, Nat.mul_add]
 omega
theorem lf_Packet : ∀ (cs : List AV) (N : Nat), wfL mvPacket cs → (instL ti0 E0.tp N ctyPacket cs).1.all isLeaf = true := fun cs N h => instL_leaf _ _ _ (wfv_fl cs mvPacket h rfl)
theorem mk_PacketV (n : Nat) (hn : 1048576 < n) : MarkV (n + 3) 47 ctyPacket mvPacket :=
 markv_ok (n := n + 2) (tI := 3) (fvs := fvPacket) rfl rfl ⟨rfl, mk_ByteS (n + 0) (by omega), ⟨rfl, mk_ByteS (n + 0) (by omega), ⟨rfl, mk_ByteS (n + 0) (by omega), ⟨rfl, mk_WantS (n + 0) (by omega), ⟨rfl, mk_StringS (n + 0) (by omega), ⟨rfl, mk_IntS (n + 0) (by omega), trivial⟩⟩⟩⟩⟩⟩ rfl lf_Packet (fun β a b H kk => f47_eq (n + 2) a b H kk)
theorem hd_PacketV (n : Nat) (hn : 1048576 < n) : HeldV (n + 3) 49 mvPacket :=
 heldv_ok (n := n + 2) (tI := 3) (fvs := fwPacket) rfl ⟨rfl, hd_ByteS (n + 0) (by omega), ⟨rfl, hd_ByteS (n + 0) (by omega), ⟨rfl, hd_ByteS (n + 0) (by omega), ⟨rfl, hd_WantS (n + 0) (by omega), ⟨rfl, hd_StringS (n + 0) (by omega), ⟨rfl, hd_IntS (n + 0) (by omega), trivial⟩⟩⟩⟩⟩⟩ rfl (fun a b H kk => f49_eq (n + 2) a b H kk)
end Go.Proofs.YtdameggfgnpehaaGreatDoor.Abs
set_option linter.unusedVariables false
set_option linter.unusedSimpArgs false
set_option maxRecDepth 100000
namespace Go.Proofs.YtdameggfgnpehaaGreatDoor.Abs
open Go
def msg0 : MsgV := ⟨⟨#[]⟩, ⟨#[]⟩, 0, false⟩
def vPop1 (l : List MsgV) : MsgV := l.headD msg0
def vPop2 (l : List MsgV) : Bool := !l.isEmpty
theorem tup_ownQ {ty : Nat} {H : Heap} {ts : List Nat} {raw cells : List AV} {ids : List Nat} (hts : E0.tp ty = some ts) (h : ownL (ownT ti0 E0.tp H 7) ts raw = some (cells, ids)) (hn : ids.Nodup) : ownTree ti0 E0.tp ty H (.tup raw) = some (.tup cells) := by
 rw [ownTree, ownT_tup, hts, Option.bind_some, h, Option.bind_some, Option.bind_some, if_pos hn]
theorem own3 {H : Heap} {t0 t1 t2 : Nat} {x0 x1 : AV} {v : Value} {a b : AV × List Nat} (h0 : ownT ti0 E0.tp H 7 t0 x0 = some a) (h1 : ownT ti0 E0.tp H 7 t1 x1 = some b) : ownL (ownT ti0 E0.tp H 7) [t0, t1, t2] [x0, x1, .sc v] = some ([a.1, b.1, .sc v], a.2 ++ b.2) := by
 simp only [ownL, h0, h1, ownT_sc, Option.bind_some, List.append_nil]
theorem own_zz (H : Heap) : ownT ti0 E0.tp H 7 49 (.agg zzMsg) = some (.agg (encMsg msg0), []) := by
 obtain ⟨i, hi, hc⟩ := tyMsg
 rw [ownT_agg, hi, Option.bind_some, hc]
 rfl
theorem own_aggL {H : Heap} {raw cells : List AV} {ids : List Nat} (h : ownL (ownT ti0 E0.tp H 6) ctyMsg raw = some (cells, ids)) : ownT ti0 E0.tp H 7 49 (.agg raw) = some (.agg cells, ids) := by
 obtain ⟨i, hi, hc⟩ := tyMsg
 rw [ownT_agg, hi, Option.bind_some, hc, h]
 rfl
theorem specF_Pop (n : Nat) (hn : 1048576 < n) (x0 : List MsgV) (k0 : x0.length ≤ 9223372036854775807 ∧ ∀ z ∈ x0, okMsg z) (b0 : wtL wtMsg x0 ≤ 1048576) : tree E0 (n + 4) 129 106 [rowsC encMsg x0] = some (.tup [rowsC encMsg x0.tail, .agg (encMsg (vPop1 x0)), .sc (.bool (vPop2 x0))]) := by
 have hlen : x0.length ≤ 1048576 := by have := wtL_eq wtMsg x0; omega
 have hs : ∀ x ∈ x0, x.fBody.size ≤ 1048576 := by
  intro x hx
  have h1 := wtL_eq wtMsg x0
  have h2 := wtS_mem (wt := wtMsg) hx
  have h3 : wtMsg x = x.fTopic.size + (x.fBody.size + 0) := rfl
  omega
 rw [tree_def, f106_eq, f106]
 simp only [PR_new, PR_len, PR_bin, PR_cond, PR_fill, PR_store, PR_load, PR_slice, PR_iadr, pNew, List.length_nil, List.nil_append]
 have hz : ([⟨[.sc (.string ⟨#[]⟩), .nl, .sc (.int .i64 0), .sc (.bool false)], true, true⟩] : Heap) = [⟨zzMsg, true, true⟩] := rfl
 rw [hz]
 refine w_len ?_
 cases x0 with
 | nil =>
  refine w_bin (v := .sc (.bool true)) (fun k => rfl) ?_
  refine w_cT rfl ?_
  refine w_fill (cs := zzMsg) rfl ?_
  rw [st_at 4 0 0 _ ⟨zzMsg, true, true⟩ zzMsg _ _ rfl rfl rfl (by decide) rfl]
  refine w_ldA (ds := zzMsg) (cs := zzMsg) rfl (Nat.le_refl _) rfl ?_
  exact tup_ownQ rfl (own3 (a := (.ro 0 [], [])) rfl (own_zz _)) List.nodup_nil
 | cons m l =>
  have hm : m.fBody.size ≤ 1048576 := hs m List.mem_cons_self
  refine w_bin (v := .sc (.bool false)) (fun k => ?_) ?_
  ·show k (.sc (.bool (((m :: l).length : Int) == 0))) = _
   have e : (((m :: l).length : Int) == 0) = false := by
    rw [beq_eq_false_iff_ne]
    intro h
    have : (m :: l).length = l.length + 1 := rfl
    omega
   rw [e]
  refine w_cF rfl ?_
  have hsl := slice_rows lenMsg (m :: l) 1 (by simp) (β := AV)
  have hsl' : ∀ k : AV → Option AV, pSlice 4 (rowsC encMsg (m :: l)) (some (.sc (.int .i64 1))) none k = k (rowsC encMsg l) := fun k => hsl k
  rw [hsl']
  have hel := fun k => el_ro (β := AV) lenMsg (by decide) [] m l k
  simp only [List.nil_append, List.length_nil, Int.natCast_zero] at hel
  rw [hel, ld_rp 4 _ _ _ _ (lenMsg m)]
  rw [PR_call (vs := [rowsC encMsg l]) rfl (vcons (Vw_ro _ _ _) vnil) (l12CopyF n hn l (by simp at hlen; omega) fun x hx => hs x (List.mem_cons_of_mem _ hx))]
  rw [PR_call (vs := [.agg (encMsg m)]) rfl (vcons (Vw_agg _ (flMsg m)) vnil) (l12MsgF (n + 2) m hm)]
  obtain ⟨i, hi, hc⟩ := tyMsg
  rw [instT_agg, hi, Option.getD_some, hc]
  simp only
  generalize hA : instT ti0 E0.tp ([⟨zzMsg, true, true⟩] : Heap).length 31 (rowsC encMsg l) = A
  generalize hB : instL ti0 E0.tp ([⟨zzMsg, true, true⟩] ++ A.2 : Heap).length ctyMsg (encMsg m) = B
  have hBl : B.1.length = 4 := by rw [← hB, instL_len]; rfl
  have hBc : cellsA (.agg B.1) = some B.1 := by
   show (if _ then _ else none) = _
   rw [if_pos (by rw [← hB]; exact instL_leaf _ _ _ (flMsg m))]
  have hsp : splice zzMsg 0 B.1 = B.1 := by
   unfold splice
   rw [List.take_zero, List.nil_append, List.drop_of_length_le (by rw [hBl]; decide), List.append_nil]
  rw [st_at 4 0 0 _ ⟨zzMsg, true, true⟩ B.1 _ _ rfl hBc hBl (by decide) rfl]
  simp only [hsp]
  have hH : ([⟨zzMsg, true, true⟩] ++ A.2 ++ B.2 : Heap).set 0 ⟨B.1, true, true⟩ = ⟨B.1, true, true⟩ :: (A.2 ++ B.2) := by simp
  rw [hH]
  refine w_ldA (ds := B.1) (cs := B.1) rfl (by omega) (by rw [List.drop_zero, ← hBl, List.take_length]) ?_
  have hA1 : A = instT ti0 E0.tp 1 31 (rowsC encMsg l) := hA.symm
  have hNB : ([⟨zzMsg, true, true⟩] ++ A.2 : Heap).length = 1 + A.2.length := by simp; omega
  rw [hNB] at hB
  have o1 : ownT ti0 E0.tp (⟨B.1, true, true⟩ :: (A.2 ++ B.2)) 7 31 A.1 = some (rowsC encMsg l, List.range' 1 A.2.length) := by
   rw [hA1]
   refine own_inst 7 _ _ 1 (okW_rows (d := 6) lenMsg tyMsgS (okWMsg 4) l) ?_
   have := Lies_in [⟨B.1, true, true⟩] (instT ti0 E0.tp 1 31 (rowsC encMsg l)).2 B.2
   exact this
  have o2 : ownL (ownT ti0 E0.tp (⟨B.1, true, true⟩ :: (A.2 ++ B.2)) 6) ctyMsg B.1 = some (encMsg m, List.range' (1 + A.2.length) B.2.length) := by
   rw [← hB]
   refine own_instL (fun ty t N h h' _ => own_inst 6 ty t N h h') ctyMsg (encMsg m) (1 + A.2.length) (okWMsg 4 m) ?_ (instL_live _ _ _)
   have := Lies_end (⟨B.1, true, true⟩ :: A.2) B.2
   rw [List.length_cons, Nat.add_comm] at this
   rw [hB]
   exact this
  refine tup_ownQ rfl (own3 o1 (own_aggL o2)) ?_
  have := List.range'_append (s := 1) (m := A.2.length) (n := B.2.length) (step := 1)
  rw [Nat.one_mul] at this
  rw [this]
  exact List.nodup_range'
theorem implF_Pop (n : Nat) (hn : 1048576 < n) (x0 : List MsgV) (k0 : x0.length ≤ 9223372036854775807 ∧ ∀ z ∈ x0, okMsg z) (b0 : wtL wtMsg x0 ≤ 1048576) : tree E0 (n + 4) 129 110 [rowsC encMsg x0] = some (.tup [rowsC encMsg x0.tail, .agg (encMsg (vPop1 x0)), .sc (.bool (vPop2 x0))]) := by
 have hlen : x0.length ≤ 1048576 := by have := wtL_eq wtMsg x0; omega
 have hs : ∀ x ∈ x0, x.fBody.size ≤ 1048576 := by
  intro x hx
  have h1 := wtL_eq wtMsg x0
  have h2 := wtS_mem (wt := wtMsg) hx
  have h3 : wtMsg x = x.fTopic.size + (x.fBody.size + 0) := rfl
  omega
 rw [tree_def, f110_eq, f110]
 simp only [PR_new, PR_len, PR_bin, PR_cond, PR_fill, PR_store, PR_load, PR_slice, PR_iadr, pNew, List.length_nil, List.nil_append]
 rw [PR_call (vs := [rowsC encMsg x0]) rfl (vcons (Vw_ro _ _ _) vnil) (copyMsgsF n hn x0 hlen hs)]
 obtain ⟨i, j, h1, h2, h3, h4⟩ := tyMsgS
 have hi : instT ti0 E0.tp ([⟨zzMsg, true, true⟩] : Heap).length 31 (rowsC encMsg x0) = (.sl 1 0 x0.length 4, ⟨(instL ti0 E0.tp 2 (List.replicate x0.length ctyMsg).flatten (x0.map encMsg).flatten).1, true, true⟩ :: (instL ti0 E0.tp 2 (List.replicate x0.length ctyMsg).flatten (x0.map encMsg).flatten).2) := by
  show instT ti0 E0.tp 1 31 (.ro x0.length (x0.map encMsg).flatten) = _
  simp only [instT, h1, Option.bind_some, h2, Option.getD_some, h3, h4]
 have hz : ([⟨[.sc (.string ⟨#[]⟩), .nl, .sc (.int .i64 0), .sc (.bool false)], true, true⟩] : Heap) = [⟨zzMsg, true, true⟩] := rfl
 rw [hz, hi]
 simp only
 refine w_len ?_
 cases x0 with
 | nil =>
  refine w_bin (v := .sc (.bool true)) (fun k => rfl) ?_
  refine w_cT rfl ?_
  refine w_fill (cs := zzMsg) rfl ?_
  rw [st_at 4 0 0 _ ⟨zzMsg, true, true⟩ zzMsg _ _ rfl rfl rfl (by decide) rfl]
  refine w_ldA (ds := zzMsg) (cs := zzMsg) rfl (Nat.le_refl _) rfl ?_
  have o1 : ownT ti0 E0.tp (([⟨zzMsg, true, true⟩] ++ [⟨[], true, true⟩] : Heap).set 0 ⟨splice zzMsg 0 zzMsg, true, true⟩) 7 31 (.sl 1 0 0 4) = some (.ro 0 [], [1]) := by
   rw [ownT_sl]
   simp only [h1, h2, Option.bind_some, h3, if_true, h4]
   rfl
  exact tup_ownQ rfl (own3 o1 (own_zz _)) (by simp)
 | cons m l =>
  refine w_bin (v := .sc (.bool false)) (fun k => ?_) ?_
  ·show k (.sc (.bool (((m :: l).length : Int) == 0))) = _
   have e : (((m :: l).length : Int) == 0) = false := by
    rw [beq_eq_false_iff_ne]
    intro h
    have : (m :: l).length = l.length + 1 := rfl
    omega
   rw [e]
  refine w_cF rfl ?_
  have hsl : ∀ (id : Nat) (k : AV → Option AV), pSlice 4 (.sl id 0 (m :: l).length 4) (some (.sc (.int .i64 1))) none k = k (.sl id 4 l.length 4) := by
   intro id k
   simp only [pSlice, lenA, bound, asI, Option.bind_some, if_true]
   rw [if_pos (by simp; omega)]
   congr 2
   simp
  rw [hsl]
  rw [show ∀ k : AV → Option AV, pIadr 4 (.sl 1 0 (m :: l).length 4) (.sc (.int .i64 0)) k = k (.ptr 1 0) from fun k => iadr_sl 4 (m :: l).length 1 0 0 k (by simp)]
  have hap := instL_append (ti := ti0) (tp := E0.tp) ctyMsg (encMsg m) (List.replicate l.length ctyMsg).flatten (l.map encMsg).flatten 2 rfl
  rw [show (List.replicate (m :: l).length ctyMsg).flatten = ctyMsg ++ (List.replicate l.length ctyMsg).flatten by simp [List.replicate_succ], show ((m :: l).map encMsg).flatten = encMsg m ++ (l.map encMsg).flatten by simp, hap]
  simp only
  generalize hP : instL ti0 E0.tp 2 ctyMsg (encMsg m) = P
  generalize hQ : instL ti0 E0.tp (2 + P.2.length) (List.replicate l.length ctyMsg).flatten (l.map encMsg).flatten = Q
  have hPl : P.1.length = 4 := by rw [← hP, instL_len]; rfl
  have hQl : Q.1.length = l.length * 4 := by rw [← hQ, instL_len, rows_len lenMsg]
  have hPc : cellsA (.agg P.1) = some P.1 := by
   show (if _ then _ else none) = _
   rw [if_pos (by rw [← hP]; exact instL_leaf _ _ _ (flMsg m))]
  refine w_ldA (ds := P.1) (cs := P.1 ++ Q.1) rfl (by rw [List.length_append]; omega) (by rw [List.drop_zero, ← hPl, List.take_left' rfl]) ?_
  have hsp : splice zzMsg 0 P.1 = P.1 := by
   unfold splice
   rw [List.take_zero, List.nil_append, List.drop_of_length_le (by rw [hPl]; decide), List.append_nil]
  rw [st_at 4 0 0 _ ⟨zzMsg, true, true⟩ P.1 _ _ rfl hPc hPl (by decide) rfl]
  simp only [hsp]
  have hH : ([⟨zzMsg, true, true⟩] ++ ⟨P.1 ++ Q.1, true, true⟩ :: (P.2 ++ Q.2) : Heap).set 0 ⟨P.1, true, true⟩ = ⟨P.1, true, true⟩ :: ⟨P.1 ++ Q.1, true, true⟩ :: (P.2 ++ Q.2) := by simp
  rw [hH]
  refine w_ldA (ds := P.1) (cs := P.1) rfl (by omega) (by rw [List.drop_zero, ← hPl, List.take_length]) ?_
  have lP : Lies (⟨P.1, true, true⟩ :: ⟨P.1 ++ Q.1, true, true⟩ :: (P.2 ++ Q.2)) 2 P.2 := Lies_in [⟨P.1, true, true⟩, ⟨P.1 ++ Q.1, true, true⟩] P.2 Q.2
  have lQ : Lies (⟨P.1, true, true⟩ :: ⟨P.1 ++ Q.1, true, true⟩ :: (P.2 ++ Q.2)) (2 + P.2.length) Q.2 := by
   have := Lies_end (⟨P.1, true, true⟩ :: ⟨P.1 ++ Q.1, true, true⟩ :: P.2) Q.2
   rw [List.length_cons, List.length_cons, show P.2.length + 1 + 1 = 2 + P.2.length by omega] at this
   exact this
  have o2 : ownL (ownT ti0 E0.tp (⟨P.1, true, true⟩ :: ⟨P.1 ++ Q.1, true, true⟩ :: (P.2 ++ Q.2)) 6) ctyMsg P.1 = some (encMsg m, List.range' 2 P.2.length) := by
   have := own_instL (H := ⟨P.1, true, true⟩ :: ⟨P.1 ++ Q.1, true, true⟩ :: (P.2 ++ Q.2)) (fun ty t N h h' _ => own_inst 6 ty t N h h') ctyMsg (encMsg m) 2 (okWMsg 4 m) (by rw [hP]; exact lP) (instL_live _ _ _)
   rw [hP] at this
   exact this
  have o1' : ownL (ownT ti0 E0.tp (⟨P.1, true, true⟩ :: ⟨P.1 ++ Q.1, true, true⟩ :: (P.2 ++ Q.2)) 6) (List.replicate l.length ctyMsg).flatten Q.1 = some ((l.map encMsg).flatten, List.range' (2 + P.2.length) Q.2.length) := by
   have := own_instL (H := ⟨P.1, true, true⟩ :: ⟨P.1 ++ Q.1, true, true⟩ :: (P.2 ++ Q.2)) (fun ty t N h h' _ => own_inst 6 ty t N h h') (List.replicate l.length ctyMsg).flatten (l.map encMsg).flatten (2 + P.2.length) (okLW_rows l fun x _ => okWMsg 4 x) (by rw [hQ]; exact lQ) (instL_live _ _ _)
   rw [hQ] at this
   exact this
  have o1 : ownT ti0 E0.tp (⟨P.1, true, true⟩ :: ⟨P.1 ++ Q.1, true, true⟩ :: (P.2 ++ Q.2)) 7 31 (.sl 1 4 l.length 4) = some (rowsC encMsg l, 1 :: List.range' (2 + P.2.length) Q.2.length) := by
   rw [ownT_sl]
   have ha : isApp (⟨P.1, true, true⟩ :: ⟨P.1 ++ Q.1, true, true⟩ :: (P.2 ++ Q.2)) 1 = true := rfl
   have hr : rdCells (⟨P.1, true, true⟩ :: ⟨P.1 ++ Q.1, true, true⟩ :: (P.2 ++ Q.2)) 1 4 (l.length * 4) = some Q.1 := by
    have hg : (⟨P.1, true, true⟩ :: ⟨P.1 ++ Q.1, true, true⟩ :: (P.2 ++ Q.2) : Heap)[1]? = some ⟨P.1 ++ Q.1, true, true⟩ := rfl
    simp only [rdCells, hg, if_true]
    rw [if_pos (by rw [List.length_append]; omega), ← hPl, List.drop_append_of_le_length (Nat.le_refl _), List.drop_length, List.nil_append, hPl, ← hQl, List.take_length]
   simp only [h1, h2, Option.bind_some, h3, if_true, ha, hr, h4, o1']
  refine tup_ownQ rfl (own3 o1 (own_aggL o2)) ?_
  rw [List.cons_append, List.nodup_cons, List.nodup_append]
  refine ⟨?_, List.nodup_range', List.nodup_range', ?_⟩
  ·rw [List.mem_append, List.mem_range'_1, List.mem_range'_1]
   omega
  ·intro a ha b hb
   rw [List.mem_range'_1] at ha hb
   omega
theorem resF_Pop_0 (x0 : List MsgV) (b0 : wtL wtMsg x0 ≤ 1048576) : wtL wtMsg x0.tail ≤ 1048576 ∧ (x0.tail.length ≤ 1048576 ∧ ∀ y ∈ x0.tail, smMsg y) := by
 have h : wtL wtMsg x0.tail ≤ 1048576 := by
  cases x0 with
  | nil => exact b0
  | cons m l =>
   have : wtL wtMsg (m :: l) = 1 + wtMsg m + wtL wtMsg l := rfl
   show wtL wtMsg l ≤ _
   omega
 exact ⟨h, smwS smMsg smwMsg _ h⟩
theorem resF_Pop_1 (x0 : List MsgV) (b0 : wtL wtMsg x0 ≤ 1048576) : wtMsg (vPop1 x0) ≤ 1048576 ∧ smMsg (vPop1 x0) := by
 have h : wtMsg (vPop1 x0) ≤ 1048576 := by
  cases x0 with
  | nil => decide
  | cons m l =>
   have : wtL wtMsg (m :: l) = 1 + wtMsg m + wtL wtMsg l := rfl
   show wtMsg m ≤ _
   omega
 exact ⟨h, smwMsg _ h⟩
end Go.Proofs.YtdameggfgnpehaaGreatDoor.Abs
set_option linter.unusedVariables false
set_option linter.unusedSimpArgs false
namespace Go.Proofs.YtdameggfgnpehaaGreatDoor.Abs
open Go
def nx (x : Int) : Int := x % 65535 + 1
def seek (used : List Int) : Nat → Int → Int × Bool
 | 0, _ => (0, false)
 | k + 1, x => if used.contains (nx x) then seek used k (nx x) else (nx x, true)
def orb : Nat → Int → List Int
 | 0, _ => []
 | k + 1, x => nx x :: orb k (nx x)
theorem orb_len : ∀ (k : Nat) (x : Int), (orb k x).length = k
 | 0, _ => rfl
 | k + 1, x => by rw [orb, List.length_cons, orb_len k]
theorem orb_mem : ∀ (k : Nat) (x y : Int), 0 ≤ x → y ∈ orb k x → ∃ i : Nat, i < k ∧ y = (x + i) % 65535 + 1
 | 0, _, _, _, h => by cases h
 | k + 1, x, y, h0, h => by
  rcases List.mem_cons.1 h with rfl | h
  ·exact ⟨0, by omega, by unfold nx; simp⟩
  ·obtain ⟨i, hi, rfl⟩ := orb_mem k (nx x) y (by unfold nx; omega) h
   refine ⟨i + 1, by omega, ?_⟩
   unfold nx
   omega
theorem orb_nodup : ∀ (k : Nat) (x : Int), 0 ≤ x → k ≤ 65535 → (orb k x).Nodup
 | 0, _, _, _ => List.nodup_nil
 | k + 1, x, h0, hk => by
  rw [orb, List.nodup_cons]
  refine ⟨fun hm => ?_, orb_nodup k _ (by unfold nx; omega) (by omega)⟩
  obtain ⟨i, hi, e⟩ := orb_mem k (nx x) (nx x) (by unfold nx; omega) hm
  unfold nx at e
  omega
theorem seek_none : ∀ (used : List Int) (k : Nat) (x : Int), (seek used k x).2 = false → ∀ y ∈ orb k x, y ∈ used
 | used, 0, _, _, y, hy => by cases hy
 | used, k + 1, x, h, y, hy => by
  rw [seek] at h
  split at h
  ·rename_i hc
   rcases List.mem_cons.1 hy with rfl | hy
   ·exact List.contains_iff_mem.1 hc
   ·exact seek_none used k _ h y hy
  ·cases h
theorem seek_more : ∀ (used : List Int) (k j : Nat) (x : Int), (seek used k x).2 = true → seek used (k + j) x = seek used k x
 | used, 0, _, _, h => by cases h
 | used, k + 1, j, x, h => by
  rw [show k + 1 + j = (k + j) + 1 by omega, seek, seek]
  rw [seek] at h
  split
  ·rename_i hc
   rw [if_pos hc] at h
   exact seek_more used k j _ h
  ·rfl
theorem nodup_sub : ∀ (l u : List Int), l.Nodup → (∀ y ∈ l, y ∈ u) → l.length ≤ u.length
 | [], u, _, _ => Nat.zero_le _
 | x :: l, u, h, hs => by
  rw [List.nodup_cons] at h
  have hx : x ∈ u := hs x List.mem_cons_self
  have h1 := nodup_sub l (u.erase x) h.2 fun y hy => (List.mem_erase_of_ne (fun (e : y = x) => h.1 (e ▸ hy))).2 (hs y (List.mem_cons_of_mem _ hy))
  rw [List.length_erase_of_mem hx] at h1
  have := List.length_pos_of_mem hx
  rw [List.length_cons]
  omega
theorem seek_eq (used : List Int) (x : Int) (h0 : 0 ≤ x) : seek used 65535 x = seek used (min (used.length + 1) 65535) x := by
 by_cases h : used.length + 1 < 65535
 ·rw [Nat.min_eq_left (by omega)]
  cases hs : (seek used (used.length + 1) x).2
  ·exfalso
   have h1 := nodup_sub _ used (orb_nodup (used.length + 1) x h0 (by omega)) (seek_none used _ x hs)
   rw [orb_len] at h1
   omega
  ·have := seek_more used (used.length + 1) (65535 - (used.length + 1)) x hs
   rw [show used.length + 1 + (65535 - (used.length + 1)) = 65535 by omega] at this
   exact this
 ·rw [Nat.min_eq_right (by omega)]
def vNext (last : Int) (used : List Int) : Int × Bool := if 0 ≤ last ∧ last ≤ 65535 then seek used 65535 last else (0, false)
theorem next_found (last : Int) (used : List Int) (h : 0 ≤ last ∧ last ≤ 65535) (hu : used.length < 65535) : (vNext last used).2 = true := by
 unfold vNext
 rw [if_pos h]
 cases hs : (seek used 65535 last).2
 ·exfalso
  have h1 := nodup_sub _ used (orb_nodup 65535 last h.1 (Nat.le_refl _)) (seek_none used _ last hs)
  rw [orb_len] at h1
  omega
 ·rfl
theorem seek_range : ∀ (used : List Int) (k : Nat) (x : Int), 0 ≤ x → (seek used k x).2 = true → 1 ≤ (seek used k x).1 ∧ (seek used k x).1 ≤ 65535
 | used, 0, _, _, h => by cases h
 | used, k + 1, x, h0, h => by
  rw [seek] at h ⊢
  split
  ·rename_i hc
   rw [if_pos hc] at h
   exact seek_range used k _ (by unfold nx; omega) h
  ·unfold nx
   show 1 ≤ x % 65535 + 1 ∧ x % 65535 + 1 ≤ 65535
   omega
end Go.Proofs.YtdameggfgnpehaaGreatDoor.Abs
