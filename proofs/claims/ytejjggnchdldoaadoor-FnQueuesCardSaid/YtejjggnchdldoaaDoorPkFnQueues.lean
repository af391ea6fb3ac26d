/- The law FnQueues and its row: every input, no condition (written by laws.py). -/
import Derived.Test.YtejjggnchdldoaaDoorMc
import Derived.Lib.TrimUEq
import Derived.Lib.ValidLaws
import Derived.Lib.MapLaws
import Derived.Test.YtejjggnchdldoaaDoorRows
import Derived.Test.YtejjggnchdldoaaDoorTie
import Derived.Test.YtejjggnchdldoaaDoorCards
import Derived.Lib.LaidIn
import Derived.Lib.LaidU8T
import Derived.PinnedBridge
import Derived.SevenTiedAt
import Derived.Deep.DeepHandedRow
import Derived.Deep.DeepWitnessRowRef
import Derived.WalkKit
import Derived.ProofKit
import Derived.OpenShut
import Derived.ShutString
import Derived.ChangeOld
import Derived.Below
import Derived.SizedLaws
set_option linter.unusedVariables false
set_option linter.unusedSimpArgs false
set_option maxRecDepth 100000
namespace Go.Proofs.YtejjggnchdldoaaDoor.Abs
open Go
theorem and31 : ∀ X : Fin 256, bits .and .i64 ((X.val : Nat) : Int) 31 = ((X.val % 32 : Nat) : Int) := by decide +kernel
theorem and15 : ∀ X : Fin 256, bits .and .i64 ((X.val : Nat) : Int) 15 = ((X.val % 16 : Nat) : Int) := by decide +kernel
theorem and7' : ∀ X : Fin 256, bits .and .i64 ((X.val : Nat) : Int) 7 = ((X.val % 8 : Nat) : Int) := by decide +kernel
def runeAV (d : Nat × Nat) (i : Nat) : AV := if d.1 = 65533 ∧ d.2 = 1 then .tup [.sc (.int .i64 0), .sc (.int .i64 0), .sc (.bool false)] else .tup [.sc (.int .i64 d.1), .sc (.int .i64 ((i + d.2 : Nat) : Int)), .sc (.bool true)]
def failAV : AV := .tup [.sc (.int .i64 0), .sc (.int .i64 0), .sc (.bool false)]
theorem by_at (s : ByteArray) (i : Nat) (h : i < s.size) (H : Heap) (k : AV → Option AV) : (pIadr 1 (bytesC s) (.sc (.int .i64 i)) fun t => pLoad false 1 t H k) = k (.sc (.int .u8 (s.data.toList.getD i 0).toNat)) := by
 rw [iadr_ro 1 _ _ i _ h (by rw [bytesAV_len]; omega)]
 have hl : i < s.data.toList.length := by simpa using h
 have hd : (bytesAV s).drop (i * 1) = .sc (.int .u8 (s.data.toList.getD i 0).toNat) :: (bytesAV s).drop (i + 1) := by
  rw [Nat.mul_one, List.drop_eq_getElem_cons (by rw [bytesAV_len]; omega)]
  congr 1
  simp [bytesAV, List.getD_eq_getElem?_getD, h]
 rw [hd, ld1_rp]
section loop
variable (n : Nat) (k : AV → Heap → Option AV) (H : Heap) (s : ByteArray)
theorem rune_step (m at' N v i : Nat) (least : Int) (hi : i ≤ N) (hb : at' + i < s.size) (hN : N ≤ 3) (hv : v < 100000000) (hs : s.size ≤ 1048576) :
  f105_l0 (PR n AV) n k (m + 1) (bytesC s) (.sc (.int .i64 at')) (.sc (.int .i64 N)) (.sc (.int .i64 least)) (.sc (.int .i64 v)) (.sc (.int .i64 i)) H =
   if (s.data.toList.getD (at' + i) 0).toNat / 64 = 2 then f105_l0 (PR n AV) n k m (bytesC s) (.sc (.int .i64 at')) (.sc (.int .i64 N)) (.sc (.int .i64 least)) (.sc (.int .i64 ((v * 64 + (s.data.toList.getD (at' + i) 0).toNat % 64 : Nat) : Int))) (.sc (.int .i64 ((i + 1 : Nat) : Int))) H else k failAV H := by
 obtain ⟨y, hy⟩ : ∃ y, (s.data.toList.getD (at' + i) 0).toNat = y := ⟨_, rfl⟩
 have hylt : y < 256 := by rw [← hy]; exact (s.data.toList.getD (at' + i) 0).toNat_lt
 have hba := by_at s (at' + i) hb H
 rw [hy] at hba ⊢
 rw [f105_l0]
 simp only [PR_bin, PR_cond, PR_iadr, PR_load, PR_cvI, PR_guard, PR_pick]
 rw [leq64, cond_b, if_pos (by simp; omega), add64, ← Int.natCast_add, wrap64 _ (by omega) (by omega), hba]
 simp only [pCvI, asI, Option.bind_some]
 rw [wrap64 _ (by omega) (by omega), lss64]
 by_cases h1 : y < 128
 ·refine w_hF (by simp; omega) ?_
  refine w_hF (by simp; omega) ?_
  refine w_pT (by simp; omega) ?_
  rw [if_neg (by omega)]
  rfl
 ·refine w_hT (by simp; omega) ?_
  refine w_hT (by simp; omega) ?_
  rw [gtr64]
  refine w_pF (by simp; omega) ?_
  by_cases h2 : y ≤ 191
  ·rw [cond_b, if_neg (by simp; omega), if_pos (by omega), mul64, show (v : Int) * 64 = ((v * 64 : Nat) : Int) by omega, wrap64 _ (by omega) (by omega), add64, ← Int.natCast_add, wrap64 _ (by omega) (by omega), sub64 _ _ _ (by omega) (by omega), inc_nat _ _ (by omega)]
   congr 3
   omega
  ·rw [cond_b, if_pos (by simp; omega), if_neg (by omega)]
   rfl
theorem rune_end (n' : Nat) (hnn : n = n' + 1) (m at' N v least : Nat) (hN : N ≤ 3) (hv : v < 100000000) (ha : at' ≤ 1048576) :
  f105_l0 (PR n AV) n k (m + 1) (bytesC s) (.sc (.int .i64 at')) (.sc (.int .i64 N)) (.sc (.int .i64 least)) (.sc (.int .i64 v)) (.sc (.int .i64 ((N + 1 : Nat) : Int))) H =
   if v ≥ least ∧ (v < 55296 ∨ (57344 ≤ v ∧ v ≤ 1114111)) then k (.tup [.sc (.int .i64 v), .sc (.int .i64 ((at' + (N + 1) : Nat) : Int)), .sc (.bool true)]) H else k failAV H := by
 subst hnn
 rw [f105_l0]
 simp only [PR_bin, PR_cond, PR_iadr, PR_load, PR_cvI, PR_guard, PR_pick]
 rw [leq64, cond_b, if_neg (by simp; omega), lss64]
 by_cases h1 : v < least
 ·have e : decide ((v : Int) < (least : Int)) = true := by simp; omega
  refine w_hF e ?_
  refine w_hF e ?_
  refine w_pT e ?_
  refine w_hF rfl ?_
  refine w_hF rfl ?_
  refine w_pT rfl ?_
  refine w_cT rfl ?_
  rw [if_neg (by omega)]
  rfl
 ·have e : decide ((v : Int) < (least : Int)) = false := by simp; omega
  refine w_hT e ?_
  refine w_hT e ?_
  refine w_bin (v := .sc (.bool (decide ((v : Int) > 1114111)))) (fun k => rfl) ?_
  refine w_pF e ?_
  by_cases h2 : v > 1114111
  ·have e2 : decide ((v : Int) > 1114111) = true := by simp; omega
   refine w_hF e2 ?_
   refine w_hF e2 ?_
   refine w_pT e2 ?_
   refine w_cT rfl ?_
   rw [if_neg (by omega)]
   rfl
  ·have e2 : decide ((v : Int) > 1114111) = false := by simp; omega
   refine w_hT e2 ?_
   refine w_hT e2 ?_
   refine lw_sc rfl (vcons (Vw_sc _ _) (vcons (Vw_sc _ _) (vcons (Vw_sc _ _) vnil))) (l1InF n' _ v 55296 57343) ?_
   refine w_pF e2 ?_
   by_cases h3 : 55296 ≤ v ∧ v ≤ 57343
   ·refine w_cT (by simp [vIn]; omega) ?_
    rw [if_neg (by omega)]
    rfl
   ·refine w_cF (by simp [vIn]; omega) ?_
    have e5 : ((at' : Int) + 1 + (N : Int)) = ((at' + (N + 1) : Nat) : Int) := by omega
    rw [if_pos (by omega), add64, wrap64 _ (by omega) (by omega), add64, wrap64 _ (by omega) (by omega), e5]
    rfl
end loop
theorem own_tup3 (H : Heap) (a b c : Value) : ownTree ti0 E0.tp 107 H (.tup [.sc a, .sc b, .sc c]) = some (.tup [.sc a, .sc b, .sc c]) := rfl
set_option maxHeartbeats 1600000 in
theorem runeAtF (n : Nat) (hn : 1048576 < n) (s : ByteArray) (i : Nat) (hs : s.size ≤ 1048576) (hi : i < s.size) : tree E0 (n + 2) 107 105 [bytesC s, .sc (.int .i64 i)] = some (runeAV (Lib.decodeL (s.data.toList.drop i)) i) := by
 have hg : ∀ j, (s.data.toList.drop i).getD j 0 = s.data.toList.getD (i + j) 0 := fun j => by simp [List.getD_eq_getElem?_getD, List.getElem?_drop]
 have hL : (s.data.toList.drop i).length = s.size - i := by simp
 have hg0 : (s.data.toList.drop i).getD 0 0 = s.data.toList.getD i 0 := hg 0
 rw [Lib.decodeL_N, hL, hg0, hg 1, hg 2, hg 3]
 obtain ⟨x, hx⟩ : ∃ x, (s.data.toList.getD i 0).toNat = x := ⟨_, rfl⟩
 have hxl : x < 256 := by rw [← hx]; exact (s.data.toList.getD i 0).toNat_lt
 obtain ⟨y1, hy1⟩ : ∃ x, (s.data.toList.getD (i + 1) 0).toNat = x := ⟨_, rfl⟩
 obtain ⟨y2, hy2⟩ : ∃ x, (s.data.toList.getD (i + 2) 0).toNat = x := ⟨_, rfl⟩
 obtain ⟨y3, hy3⟩ : ∃ x, (s.data.toList.getD (i + 3) 0).toNat = x := ⟨_, rfl⟩
 have b1 : y1 < 256 := by rw [← hy1]; exact (s.data.toList.getD (i + 1) 0).toNat_lt
 have b2 : y2 < 256 := by rw [← hy2]; exact (s.data.toList.getD (i + 2) 0).toNat_lt
 have b3 : y3 < 256 := by rw [← hy3]; exact (s.data.toList.getD (i + 3) 0).toNat_lt
 have hba := by_at s i hi []
 rw [hx] at hba
 rw [hx, hy1, hy2, hy3]
 have fails : Lib.decodeN (s.size - i) x y1 y2 y3 = (65533, 1) → some failAV = some (runeAV (Lib.decodeN (s.size - i) x y1 y2 y3) i) := fun h => by rw [h]; rfl
 have goes : ∀ v w, Lib.decodeN (s.size - i) x y1 y2 y3 = (v, w) → (w = 1 → v < 128) → some (.tup [.sc (.int .i64 v), .sc (.int .i64 ((i + w : Nat) : Int)), .sc (.bool true)]) = some (runeAV (Lib.decodeN (s.size - i) x y1 y2 y3) i) := fun v w h hw => by
  rw [h, runeAV, if_neg (by intro h; simp only at h; omega)]
 rw [tree_def, f105_eq, f105]
 simp only [PR_bin, PR_cond, PR_iadr, PR_load, PR_cvI, PR_guard, PR_pick, PR_len]
 have e0 : decide ((i : Int) < 0) = false := by simp
 rw [lss64]
 refine w_hT e0 ?_
 refine w_hT e0 ?_
 refine w_hT e0 ?_
 refine w_len ?_
 refine w_hT e0 ?_
 refine w_bin (v := .sc (.bool (decide ((i : Int) ≥ (s.size : Int))))) (fun k => rfl) ?_
 refine w_pF e0 ?_
 refine w_cF (by simp; omega) ?_
 rw [hba]
 simp only [pCvI, asI, Option.bind_some]
 rw [wrap64 _ (by omega) (by omega), lss64]
 by_cases c1 : x < 128
 ·refine w_cT (by simp; omega) ?_
  rw [inc_nat _ _ (by omega)]
  exact (own_tup3 _ _ _ _).trans (goes x 1 (by rw [Lib.decodeN, if_pos c1]) (fun _ => c1))
 ·refine w_cF (by simp; omega) ?_
  obtain ⟨q, rfl⟩ : ∃ q, n = q + 4 := ⟨n - 4, by omega⟩
  apply w_merge (decide ((x : Int) ≥ 192) && decide ((x : Int) < 224))
  ·intro b hb
   refine w_bin (v := .sc (.bool (decide ((x : Int) ≥ 192)))) (fun k => rfl) ?_
   refine w_split (decide ((x : Int) ≥ 192)) (fun h => ?_) (fun h => ?_)
   ·refine w_gT h ?_
    refine w_gT h ?_
    refine w_bin (v := .sc (.bool (decide ((x : Int) < 224)))) (fun k => rfl) ?_
    refine w_pTb h (mAT hb h) ?_
    exact rfl
   ·refine w_gF h ?_
    refine w_gF h ?_
    refine w_pFb h (mAF hb h) ?_
    exact rfl
  intro b0 hb0
  by_cases d0 : 192 ≤ x ∧ x < 224
  ·refine w_cT (by rw [hb0]; simp; omega) ?_
   refine w_bin (v := .sc (.int .i64 ((x % 32 : Nat) : Int))) (fun k => by show k (.sc (.int .i64 (bits .and .i64 (x : Int) 31))) = _; rw [and31 ⟨x, hxl⟩]) ?_
   refine w_len ?_
   refine w_bin (v := .sc (.int .i64 ((s.size : Int) - 1))) (fun k => sub64 _ _ _ (by omega) (by omega)) ?_
   refine w_bin (v := .sc (.int .i64 ((s.size : Int) - 1 - 1))) (fun k => sub64 _ _ _ (by omega) (by omega)) ?_
   refine w_bin (v := .sc (.bool (decide ((i : Int) > (s.size : Int) - 1 - 1)))) (fun k => rfl) ?_
   by_cases c3 : i + 1 < s.size
   ·refine w_cF (by simp; omega) ?_
    have r1 := rune_step (q + 4 + 1) (fun x H => ownTree ti0 E0.tp 107 H x) [] s (q + 4) i 1 (x % 32) 1 128 (by omega) (by omega) (by omega) (by omega) hs
    rw [hy1] at r1
    refine r1.trans ?_
    by_cases k1 : y1 / 64 = 2
    rotate_left
    ·rw [if_neg k1]
     exact (own_tup3 _ _ _ _).trans (fails (by unfold Lib.decodeN; rw [if_neg c1, if_neg (by omega), if_neg (by omega), if_neg (by omega)]))
    rw [if_pos k1]
    refine (rune_end (q + 4 + 1) (fun x H => ownTree ti0 E0.tp 107 H x) [] s (q + 4) rfl (q + 3) i 1 ((x % 32) * 64 + y1 % 64) 128 (by omega) (by omega) (by omega)).trans ?_
    have hv : (x % 32) * 64 + y1 % 64 = x % 32 * 64 + y1 % 64 := by omega
    rw [hv]
    split
    ·exact (own_tup3 _ _ _ _).trans (goes _ 2 (by unfold Lib.decodeN; rw [if_neg c1, if_pos (by omega), if_pos (by omega)]) (by omega))
    ·exact (own_tup3 _ _ _ _).trans (fails (by unfold Lib.decodeN; rw [if_neg c1, if_pos (by omega), if_neg (by omega)]))
   ·refine w_cT (by simp; omega) ?_
    exact (own_tup3 _ _ _ _).trans (fails (by unfold Lib.decodeN; rw [if_neg c1, if_neg (by omega), if_neg (by omega), if_neg (by omega)]))
  ·refine w_cF (by rw [hb0]; simp; omega) ?_
   apply w_merge (decide ((x : Int) ≥ 224) && decide ((x : Int) < 240))
   ·intro b hb
    refine w_bin (v := .sc (.bool (decide ((x : Int) ≥ 224)))) (fun k => rfl) ?_
    refine w_split (decide ((x : Int) ≥ 224)) (fun h => ?_) (fun h => ?_)
    ·refine w_gT h ?_
     refine w_gT h ?_
     refine w_bin (v := .sc (.bool (decide ((x : Int) < 240)))) (fun k => rfl) ?_
     refine w_pTb h (mAT hb h) ?_
     exact rfl
    ·refine w_gF h ?_
     refine w_gF h ?_
     refine w_pFb h (mAF hb h) ?_
     exact rfl
   intro b1 hb1
   by_cases d1 : 224 ≤ x ∧ x < 240
   ·refine w_cT (by rw [hb1]; simp; omega) ?_
    refine w_bin (v := .sc (.int .i64 ((x % 16 : Nat) : Int))) (fun k => by show k (.sc (.int .i64 (bits .and .i64 (x : Int) 15))) = _; rw [and15 ⟨x, hxl⟩]) ?_
    refine w_len ?_
    refine w_bin (v := .sc (.int .i64 ((s.size : Int) - 1))) (fun k => sub64 _ _ _ (by omega) (by omega)) ?_
    refine w_bin (v := .sc (.int .i64 ((s.size : Int) - 1 - 2))) (fun k => sub64 _ _ _ (by omega) (by omega)) ?_
    refine w_bin (v := .sc (.bool (decide ((i : Int) > (s.size : Int) - 1 - 2)))) (fun k => rfl) ?_
    by_cases c3 : i + 2 < s.size
    ·refine w_cF (by simp; omega) ?_
     have r1 := rune_step (q + 4 + 1) (fun x H => ownTree ti0 E0.tp 107 H x) [] s (q + 4) i 2 (x % 16) 1 2048 (by omega) (by omega) (by omega) (by omega) hs
     rw [hy1] at r1
     refine r1.trans ?_
     by_cases k1 : y1 / 64 = 2
     rotate_left
     ·rw [if_neg k1]
      exact (own_tup3 _ _ _ _).trans (fails (by unfold Lib.decodeN; rw [if_neg c1, if_neg (by omega), if_neg (by omega), if_neg (by omega)]))
     rw [if_pos k1]
     have r2 := rune_step (q + 4 + 1) (fun x H => ownTree ti0 E0.tp 107 H x) [] s (q + 3) i 2 ((x % 16) * 64 + y1 % 64) 2 2048 (by omega) (by omega) (by omega) (by omega) hs
     rw [hy2] at r2
     refine r2.trans ?_
     by_cases k2 : y2 / 64 = 2
     rotate_left
     ·rw [if_neg k2]
      exact (own_tup3 _ _ _ _).trans (fails (by unfold Lib.decodeN; rw [if_neg c1, if_neg (by omega), if_neg (by omega), if_neg (by omega)]))
     rw [if_pos k2]
     refine (rune_end (q + 4 + 1) (fun x H => ownTree ti0 E0.tp 107 H x) [] s (q + 4) rfl (q + 2) i 2 (((x % 16) * 64 + y1 % 64) * 64 + y2 % 64) 2048 (by omega) (by omega) (by omega)).trans ?_
     have hv : ((x % 16) * 64 + y1 % 64) * 64 + y2 % 64 = x % 16 * 4096 + y1 % 64 * 64 + y2 % 64 := by omega
     rw [hv]
     split
     ·exact (own_tup3 _ _ _ _).trans (goes _ 3 (by unfold Lib.decodeN; rw [if_neg c1, if_neg (by omega), if_pos (by omega), if_pos (by omega)]) (by omega))
     ·exact (own_tup3 _ _ _ _).trans (fails (by unfold Lib.decodeN; rw [if_neg c1, if_neg (by omega), if_pos (by omega), if_neg (by omega)]))
    ·refine w_cT (by simp; omega) ?_
     exact (own_tup3 _ _ _ _).trans (fails (by unfold Lib.decodeN; rw [if_neg c1, if_neg (by omega), if_neg (by omega), if_neg (by omega)]))
   ·refine w_cF (by rw [hb1]; simp; omega) ?_
    apply w_merge (decide ((x : Int) ≥ 240) && decide ((x : Int) < 248))
    ·intro b hb
     refine w_bin (v := .sc (.bool (decide ((x : Int) ≥ 240)))) (fun k => rfl) ?_
     refine w_split (decide ((x : Int) ≥ 240)) (fun h => ?_) (fun h => ?_)
     ·refine w_gT h ?_
      refine w_gT h ?_
      refine w_bin (v := .sc (.bool (decide ((x : Int) < 248)))) (fun k => rfl) ?_
      refine w_pTb h (mAT hb h) ?_
      exact rfl
     ·refine w_gF h ?_
      refine w_gF h ?_
      refine w_pFb h (mAF hb h) ?_
      exact rfl
    intro b2 hb2
    by_cases d2 : 240 ≤ x ∧ x < 248
    ·refine w_cT (by rw [hb2]; simp; omega) ?_
     refine w_bin (v := .sc (.int .i64 ((x % 8 : Nat) : Int))) (fun k => by show k (.sc (.int .i64 (bits .and .i64 (x : Int) 7))) = _; rw [and7' ⟨x, hxl⟩]) ?_
     refine w_len ?_
     refine w_bin (v := .sc (.int .i64 ((s.size : Int) - 1))) (fun k => sub64 _ _ _ (by omega) (by omega)) ?_
     refine w_bin (v := .sc (.int .i64 ((s.size : Int) - 1 - 3))) (fun k => sub64 _ _ _ (by omega) (by omega)) ?_
     refine w_bin (v := .sc (.bool (decide ((i : Int) > (s.size : Int) - 1 - 3)))) (fun k => rfl) ?_
     by_cases c3 : i + 3 < s.size
     ·refine w_cF (by simp; omega) ?_
      have r1 := rune_step (q + 4 + 1) (fun x H => ownTree ti0 E0.tp 107 H x) [] s (q + 4) i 3 (x % 8) 1 65536 (by omega) (by omega) (by omega) (by omega) hs
      rw [hy1] at r1
      refine r1.trans ?_
      by_cases k1 : y1 / 64 = 2
      rotate_left
      ·rw [if_neg k1]
       exact (own_tup3 _ _ _ _).trans (fails (by unfold Lib.decodeN; rw [if_neg c1, if_neg (by omega), if_neg (by omega), if_neg (by omega)]))
      rw [if_pos k1]
      have r2 := rune_step (q + 4 + 1) (fun x H => ownTree ti0 E0.tp 107 H x) [] s (q + 3) i 3 ((x % 8) * 64 + y1 % 64) 2 65536 (by omega) (by omega) (by omega) (by omega) hs
      rw [hy2] at r2
      refine r2.trans ?_
      by_cases k2 : y2 / 64 = 2
      rotate_left
      ·rw [if_neg k2]
       exact (own_tup3 _ _ _ _).trans (fails (by unfold Lib.decodeN; rw [if_neg c1, if_neg (by omega), if_neg (by omega), if_neg (by omega)]))
      rw [if_pos k2]
      have r3 := rune_step (q + 4 + 1) (fun x H => ownTree ti0 E0.tp 107 H x) [] s (q + 2) i 3 (((x % 8) * 64 + y1 % 64) * 64 + y2 % 64) 3 65536 (by omega) (by omega) (by omega) (by omega) hs
      rw [hy3] at r3
      refine r3.trans ?_
      by_cases k3 : y3 / 64 = 2
      rotate_left
      ·rw [if_neg k3]
       exact (own_tup3 _ _ _ _).trans (fails (by unfold Lib.decodeN; rw [if_neg c1, if_neg (by omega), if_neg (by omega), if_neg (by omega)]))
      rw [if_pos k3]
      refine (rune_end (q + 4 + 1) (fun x H => ownTree ti0 E0.tp 107 H x) [] s (q + 4) rfl (q + 1) i 3 ((((x % 8) * 64 + y1 % 64) * 64 + y2 % 64) * 64 + y3 % 64) 65536 (by omega) (by omega) (by omega)).trans ?_
      have hv : (((x % 8) * 64 + y1 % 64) * 64 + y2 % 64) * 64 + y3 % 64 = x % 8 * 262144 + y1 % 64 * 4096 + y2 % 64 * 64 + y3 % 64 := by omega
      rw [hv]
      split
      ·exact (own_tup3 _ _ _ _).trans (goes _ 4 (by unfold Lib.decodeN; rw [if_neg c1, if_neg (by omega), if_neg (by omega), if_pos (by omega), if_pos (by omega)]) (by omega))
      ·exact (own_tup3 _ _ _ _).trans (fails (by unfold Lib.decodeN; rw [if_neg c1, if_neg (by omega), if_neg (by omega), if_pos (by omega), if_neg (by omega)]))
     ·refine w_cT (by simp; omega) ?_
      exact (own_tup3 _ _ _ _).trans (fails (by unfold Lib.decodeN; rw [if_neg c1, if_neg (by omega), if_neg (by omega), if_neg (by omega)]))
    ·refine w_cF (by rw [hb2]; simp; omega) ?_
     exact (own_tup3 _ _ _ _).trans (fails (by unfold Lib.decodeN; rw [if_neg c1, if_neg (by omega), if_neg (by omega), if_neg (by omega)]))
theorem inst_tup3 (N ty : Nat) (a b c : Value) : instT ti0 E0.tp N ty (.tup [.sc a, .sc b, .sc c]) = (.tup [.sc a, .sc b, .sc c], []) := rfl
theorem Vw_bytes (s : ByteArray) : Vw [⟨bytesAV s, true, false⟩] (.sl 0 0 s.size 1) (bytesC s) := fun X => by
 have e2 : rdCells ([⟨bytesAV s, true, false⟩] ++ X) 0 0 (s.size * 1) = some (bytesAV s) := by
  have hl := bytesAV_len s
  show (if (0 + s.size * 1 ≤ (bytesAV s).length) then some (((bytesAV s).drop 0).take (s.size * 1)) else none) = _
  rw [if_pos (by omega), List.drop_zero, Nat.mul_one, ← hl, List.take_length]
 rw [viewV_sl, e2, Option.bind_some]
 have e3 : (bytesAV s).mapM (viewV ([⟨bytesAV s, true, false⟩] ++ X) 7) = some (bytesAV s) := by
  rw [bytesAV_eq]
  exact mapM_sc _
 rw [e3]
 rfl
theorem w_extr {vs : List AV} {i : Nat} {x : AV} {K : AV → Option AV} {r : Option AV} (hx : vs[i]? = some x) (h : K x = r) : pExtr (.tup vs) i (fun t => K t) = r := by
 show (vs[i]?).bind _ = r
 rw [hx]
 exact h
theorem count_loop (n : Nat) (hn : 1048576 < n) (k : AV → Heap → Option AV) (s : ByteArray) (hs : s.size ≤ 60) : ∀ (b m pos c : Nat), s.size ≤ pos + b → pos ≤ s.size → c ≤ pos → b < m →
  ∃ r : Int, f92_l0 (PR (n + 2) AV) (n + 2) k m (.sl 0 0 s.size 1) (.sc (.int .i64 c)) (.sc (.int .i64 pos)) [⟨bytesAV s, true, false⟩] = k (.sc (.int .i64 r)) [⟨bytesAV s, true, false⟩] ∧ (textGo b (s.data.toList.drop pos) = true → 0 ≤ r) ∧ (textGo b (s.data.toList.drop pos) = false → r = -1)
 | b, m + 1, pos, c, hb, hp, hc, hm => by
  rw [f92_l0]
  simp only [PR_len, PR_bin, PR_cond, PR_extr, PR_un, PR_guard, PR_pick]
  have hlen : ∀ k : AV → Option AV, pLen (.sl 0 0 s.size 1) k = k (.sc (.int .i64 s.size)) := fun _ => rfl
  rw [hlen, lss_nat, cond_b]
  by_cases hlt : pos < s.size
  ·rw [if_pos (by simpa using hlt)]
   obtain ⟨b, rfl⟩ : ∃ b', b = b' + 1 := ⟨b - 1, by omega⟩
   have hne : s.data.toList.drop pos ≠ [] := by
    intro h
    have := congrArg List.length h
    simp at this
    omega
   have hw := Lib.decodeL_width (s.data.toList.drop pos)
   have hle := Lib.decodeL_le (s.data.toList.drop pos) hne
   have hll : (s.data.toList.drop pos).length = s.size - pos := by simp
   rw [hll] at hle
   rw [textGo, if_neg hne]
   generalize hd : Lib.decodeL (s.data.toList.drop pos) = d at hw hle ⊢
   have ht := runeAtF n hn s pos (by omega) hlt
   rw [hd] at ht
   rw [PR_call (vs := [bytesC s, .sc (.int .i64 pos)]) rfl (vcons (Vw_bytes s) (vcons (Vw_sc _ _) vnil)) ht]
   by_cases hf : d.1 = 65533 ∧ d.2 = 1
   ·rw [runeAV, if_pos hf, inst_tup3, List.append_nil, if_pos hf]
    refine ⟨-1, ?_, (fun h => by cases h), (fun _ => rfl)⟩
    refine w_extr rfl ?_
    refine w_extr rfl ?_
    refine w_extr rfl ?_
    refine w_not ?_
    refine w_hF rfl ?_
    refine w_hF rfl ?_
    refine w_pT rfl ?_
    refine w_cT rfl ?_
    rfl
   ·rw [runeAV, if_neg hf, inst_tup3, List.append_nil, if_neg hf]
    by_cases hz : d.1 = 0
    ·rw [if_pos hz]
     refine ⟨-1, ?_, (fun h => by cases h), (fun _ => rfl)⟩
     refine w_extr rfl ?_
     refine w_extr rfl ?_
     refine w_extr rfl ?_
     refine w_not ?_
     refine w_hT rfl ?_
     refine w_hT rfl ?_
     refine w_bin (v := .sc (.bool ((d.1 : Int) == 0))) (fun k => rfl) ?_
     refine w_pF rfl ?_
     refine w_cT (by simp [hz]) ?_
     rfl
    ·rw [if_neg hz, List.drop_drop]
     obtain ⟨r, h1, h2, h3⟩ := count_loop n hn k s hs b m (pos + d.2) (c + 1) (by omega) (by omega) (by omega) (by omega)
     refine ⟨r, ?_, h2, h3⟩
     refine w_extr rfl ?_
     refine w_extr rfl ?_
     refine w_extr rfl ?_
     refine w_not ?_
     refine w_hT rfl ?_
     refine w_hT rfl ?_
     refine w_bin (v := .sc (.bool ((d.1 : Int) == 0))) (fun k => rfl) ?_
     refine w_pF rfl ?_
     refine w_cF (by simp; omega) ?_
     rw [inc_nat _ _ (by omega)]
     exact h1
  ·rw [if_neg (by simpa using hlt)]
   have hnil : s.data.toList.drop pos = [] := by
    apply List.drop_of_length_le
    simp
    omega
   refine ⟨c, rfl, fun _ => by omega, fun h => ?_⟩
   rw [hnil] at h
   cases b <;> simp [textGo] at h
theorem countF (n : Nat) (hn : 1048576 < n) (ty : Nat) (s : ByteArray) : ∃ r : Int, tree E0 (n + 3) ty 92 [.sc (.string s)] = some (.sc (.int .i64 r)) ∧ (vTextOk s = true → 0 ≤ r) ∧ (vTextOk s = false → r = -1) := by
 rw [tree_def, f92_eq, f92]
 simp only [PR_lenS, PR_bin, PR_cond, PR_cvSB]
 unfold vTextOk
 by_cases h : s.size ≤ 60
 ·obtain ⟨r, h1, h2, h3⟩ := count_loop n hn (fun x H => ownTree ti0 E0.tp ty H x) s h s.size (n + 2) 0 0 (by omega) (by omega) (by omega) (by omega)
  refine ⟨r, ?_, ?_, ?_⟩
  ·refine w_lenS ?_
   refine w_bin (v := .sc (.bool (decide ((s.size : Int) > 60)))) (fun k => rfl) ?_
   refine w_cF (by simp; omega) ?_
   simp only [pCvSB, asS, Option.bind_some]
   rw [if_pos (by omega)]
   exact h1
  ·intro hv
   refine h2 ?_
   simpa [h] using hv
  ·intro hv
   refine h3 ?_
   simpa [h] using hv
 ·refine ⟨-1, ?_, (fun hv => by simp [h] at hv), (fun _ => rfl)⟩
  refine w_lenS ?_
  refine w_bin (v := .sc (.bool (decide ((s.size : Int) > 60)))) (fun k => rfl) ?_
  refine w_cT (by simp; omega) ?_
  rfl
theorem specTextF (n : Nat) (hn : 1048576 < n) (ty : Nat) (s : ByteArray) : tree E0 (n + 4) ty 74 [.sc (.string s)] = some (.sc (.bool (vTextOk s))) := by
 rw [tree_def, f74_eq, f74]
 simp only [PR_bin]
 obtain ⟨r, h1, h2, h3⟩ := countF n hn 3 s
 refine lw_sc rfl (vcons (Vw_sc _ _) vnil) h1 ?_
 refine w_bin (v := .sc (.bool (decide (r ≥ 0)))) (fun k => rfl) ?_
 refine w_endB ?_
 cases hv : vTextOk s
 ·rw [h3 hv]
  rfl
 ·simpa using h2 hv
theorem lw_ext {β : Type} {n : Nat} {H : Heap} {r : Option β} {ty f : Nat} {g : Nat → List AV → Option AV} {args vs : List AV} {v : Value} {K : AV → Heap → Option β} (hg : E0.ext f = some g) (hv : args.mapM (viewV H 8) = some vs) (ht : g ty vs = some (.sc v)) (h : K (.sc v) H = r) : (PR n β).call ty (.fn f [] []) args H (fun x H => K x H) = r := by
 rw [PR_ext hg hv ht, instT_sc, List.append_nil]
 exact h
theorem implTextF (ty : Nat) (s : ByteArray) (hs : okS s) : ext71 ty [.sc (.string s)] = some (.sc (.bool (vTextOk s))) := by
 have hm : maxLen = 9223372036854775807 := by decide
 show (if s.size ≤ maxLen then _ else _) = _
 rw [hm, if_pos (show s.size ≤ 9223372036854775807 from hs)]
end Go.Proofs.YtejjggnchdldoaaDoor.Abs
set_option linter.unusedVariables false
set_option linter.unusedSimpArgs false
set_option maxRecDepth 100000
namespace Go.Proofs.YtejjggnchdldoaaDoor.Abs
open Go
def vTopicOk (s : ByteArray) : Bool := vTextOk s && !(s.toList == (⟨#[]⟩ : ByteArray).toList) && !(vHas s 43) && !(vHas s 35) && decide (((vLevels s).length : Int) ≤ 6)
section
variable {β : Type} {n : Nat} {H : Heap} {r : Option β}
theorem lw_list {ty f len : Nat} {args vs cells : List AV} {K : AV → Heap → Option β} (hh : plainF f = false) (hv : args.mapM (viewV H 8) = some vs) (ht : tree E0 n ty f vs = some (.ro len cells)) (h : ∀ N X sz, K (.sl N 0 len sz) (H ++ X) = r) : (PR n β).call ty (.fn f [] []) args H (fun x H => K x H) = r := by
 rw [PR_call hh hv ht]
 exact h _ _ _
theorem w_endS {b b' : Bool} (h : b = b') : some (AV.sc (.bool b)) = some (AV.sc (.bool b')) := by rw [h]
theorem w_iadrE {α : Type} {w : Nat} {enc : α → List AV} {l pre t : List α} {x : α} {K : AV → Option β} (hw : ∀ x, (enc x).length = w) (h0 : 0 < w) (hl : l = pre ++ x :: t) (h : K (.rp (enc x ++ (t.map enc).flatten)) = r) : pIadr w (rowsC enc l) (.sc (.int .i64 (pre.length : Int))) (fun t => K t) = r := by
 subst hl
 exact (el_ro (β := β) hw h0 pre x t (fun t => K t)).trans h
theorem w_iadrP {α : Type} {w : Nat} {enc : α → List AV} {l pre t : List α} {K : AV → Option β} (hw : ∀ x, (enc x).length = w) (h0 : 0 < w) (hp : decide ((pre.length : Int) > 0) = true) (hl : l = pre ++ t) (hlen : l.length ≤ 1048576) (h : ∀ y, pre.getLast? = some y → K (.rp (enc y ++ (t.map enc).flatten)) = r) : pIadr w (rowsC enc l) (.sc (.int .i64 (IntKind.i64.wrap ((pre.length : Int) - 1)))) (fun t => K t) = r := by
 cases hg : pre.getLast? with
 | none =>
  rw [List.getLast?_eq_none_iff] at hg
  subst hg
  simp at hp
 | some y =>
  obtain ⟨p, rfl⟩ := List.getLast?_eq_some_iff.1 hg
  have hlp : p.length < 1048576 := by
   rw [hl] at hlen
   simp at hlen
   omega
  have e : IntKind.i64.wrap (((p ++ [y]).length : Int) - 1) = (p.length : Int) := by
   rw [List.length_append, List.length_singleton, wrap64 _ (by omega) (by omega)]
   omega
  rw [e]
  exact w_iadrE hw h0 (hl.trans (by simp)) (h y hg)
theorem w_lenL {id off m w : Nat} {K : AV → Option β} (h : K (.sc (.int .i64 m)) = r) : pLen (.sl id off m w) (fun t => K t) = r := h
end
section has
variable (n : Nat) (k : AV → Heap → Option AV) (H : Heap)
theorem has_loop (s : ByteArray) (b : UInt8) (hs : s.size ≤ 1048576) : ∀ (r pre : List UInt8) (m : Nat), s.data.toList = pre ++ r → r.length < m →
  f75_l0 (PR n AV) n k m (.sc (.string s)) (.sc (.int .u8 b.toNat)) (.sc (.int .i64 pre.length)) H = k (.sc (.bool (r.any fun c => c == b))) H
 | [], pre, m + 1, hl, hm => by
  have h1 : s.size = pre.length := by
   have := congrArg List.length hl
   simpa using this
  rw [f75_l0]
  simp only [PR_lenS, PR_bin, PR_cond]
  rw [lenSc, lss_nat, h1, cond_b, if_neg (by simp)]
  rfl
 | c :: r, pre, m + 1, hl, hm => by
  have h1 : s.size = pre.length + r.length + 1 := by
   have := congrArg List.length hl
   simpa [Nat.add_assoc] using this
  rw [f75_l0]
  simp only [PR_lenS, PR_bin, PR_cond, PR_idx]
  rw [lenSc, lss_nat, cond_b, if_pos (by simp; omega), idx_s s pre.length c _ (by rw [hl]; simp)]
  have he : ∀ K : AV → Option AV, pBin .eql (.sc (.int .u8 (c.toNat : Int))) (.sc (.int .u8 (b.toNat : Int))) K = K (.sc (.bool (c == b))) := by
   intro K
   show K (.sc (.bool ((c.toNat : Int) == (b.toNat : Int)))) = _
   congr 3
   rw [Bool.eq_iff_iff, beq_iff_eq, beq_iff_eq, Int.ofNat_inj, UInt8.toNat_inj]
  rw [he, cond_b, List.any_cons]
  cases hcb : (c == b)
  ·rw [if_neg (by simp), inc_nat _ _ (by omega)]
   have ih := has_loop s b hs r (pre ++ [c]) m (by rw [hl]; simp) (by simpa using hm)
   rw [List.length_append, List.length_singleton] at ih
   rw [ih]
   rfl
  ·rw [if_pos rfl]
   rfl
end has
theorem hasF (n : Nat) (hn : 1048576 < n) (ty : Nat) (s : ByteArray) (b : UInt8) (hs : s.size ≤ 1048576) : tree E0 (n + 1) ty 75 [.sc (.string s), .sc (.int .u8 b.toNat)] = some (.sc (.bool (vHas s b))) := by
 rw [tree_def, f75_eq, f75]
 have key := has_loop n (fun x H => ownTree ti0 E0.tp ty H x) [] s b hs s.data.toList [] n rfl (by simp; omega)
 simp only [List.length_nil, Int.natCast_zero] at key
 rw [key]
 rfl
theorem has43 (n : Nat) (hn : 1048576 < n) (ty : Nat) (s : ByteArray) (hs : s.size ≤ 1048576) : tree E0 (n + 1) ty 75 [.sc (.string s), .sc (.int .u8 43)] = some (.sc (.bool (vHas s 43))) := hasF n hn ty s 43 hs
theorem has35 (n : Nat) (hn : 1048576 < n) (ty : Nat) (s : ByteArray) (hs : s.size ≤ 1048576) : tree E0 (n + 1) ty 75 [.sc (.string s), .sc (.int .u8 35)] = some (.sc (.bool (vHas s 35))) := hasF n hn ty s 35 hs
theorem strs_ty : ∃ i j, ti0 25 = some i ∧ ti0 i.elem = some j ∧ j.size = 1 ∧ j.cty = [i.elem] := ⟨_, _, rfl, rfl, rfl, rfl⟩
def strC (l : List UInt8) : AV := .sc (.string (ofL l))
theorem ofL_extract (s : ByteArray) (P cur r : List UInt8) (h : s.data.toList = P ++ (cur ++ r)) : s.extract P.length (P.length + cur.length) = ofL cur := by
 have : (s.extract P.length (P.length + cur.length)).data.toList = cur := by
  rw [ByteArray.data_extract, Array.toList_extract, List.extract, h]
  rw [List.drop_append_of_le_length (Nat.le_refl _), List.drop_length, List.nil_append, Nat.add_sub_cancel_left, List.take_append_of_le_length (Nat.le_refl _), List.take_length]
 rw [← ofL_data (s.extract _ _), this]
theorem lev_piece {H : Heap} {x : AV} {cnt : Nat} {cells : List AV} {K : AV → Heap → Option AV} {r : Option AV} (s : ByteArray) (P cur rest : List UInt8) (hl : s.data.toList = P ++ (cur ++ rest)) (hs : s.size ≤ 1048576) (hx : OwnS 7 H 1 [9] x cnt cells) (hc : cnt ≤ 1048577)
  (h : ∀ x' H', OwnS 7 H' 1 [9] x' (cnt + 1) (cells ++ [strC cur]) → K x' H' = r) :
  (pSliceS (.sc (.string s)) (some (.sc (.int .i64 P.length))) (some (.sc (.int .i64 ((P.length + cur.length : Nat) : Int)))) fun t27 => (fillA [(.sc (.string ⟨#[]⟩))] [(0, 1, t27)]).bind fun ct28 => pNewSl 1 1 ct28 true H fun t28 H => pApp 1 16 x t28 H K) = r := by
 have hsz : P.length + cur.length ≤ s.size := by
  have := congrArg List.length hl
  simp at this
  omega
 simp only [pSliceS, asS, bound, asI, Option.bind_some]
 rw [if_pos (by omega)]
 simp only [Int.toNat_natCast]
 rw [ofL_extract s P cur rest hl]
 have hf : fillA [(.sc (.string ⟨#[]⟩))] [(0, 1, .sc (.string (ofL cur)))] = some [.sc (.string (ofL cur))] := rfl
 rw [hf, Option.bind_some]
 have key := app_one (H := H) (X := []) (bytes := 16) (er := [.sc (.string (ofL cur))]) (ec := [strC cur]) (eids := []) (K := K) (r := r) hx rfl rfl rfl List.nodup_nil (fun i hi => by cases hi) (by omega) h
 rw [List.append_nil] at key
 exact key
theorem lev_loop (n : Nat) (s : ByteArray) (hs : s.size ≤ 1048576) : ∀ (r P cur : List UInt8) (m : Nat) (x : AV) (H : Heap) (cnt : Nat) (cells : List AV), s.data.toList = P ++ (cur ++ r) → r.length + 1 < m → OwnS 7 H 1 [9] x cnt cells → cnt ≤ P.length →
  f76_l0 (PR n AV) n (fun x H => ownTree ti0 E0.tp 25 H x) m (.sc (.string s)) x (.sc (.int .i64 P.length)) (.sc (.int .i64 ((P.length + cur.length : Nat) : Int))) H = some (.ro (cnt + (lvL cur r).length) (cells ++ (lvL cur r).map strC))
 | [], P, cur, m + 2, x, H, cnt, cells, hl, hm, hx, hc => by
  have h1 : s.size = P.length + cur.length := by
   have := congrArg List.length hl
   simpa using this
  rw [f76_l0]
  simp only [PR_lenS, PR_bin, PR_cond, PR_guard, PR_pick, PR_sliceS, PR_fill, PR_newSl, PR_app, PR_idx]
  rw [lenSc, leq64, cond_b, if_pos (by simp; omega), lenSc, eql64]
  have he : (((P.length + cur.length : Nat) : Int) == (s.size : Int)) = true := by simp; omega
  refine w_hF he ?_
  refine w_hF he ?_
  refine w_hF he ?_
  refine w_hF he ?_
  refine w_pT he ?_
  refine w_cT rfl ?_
  refine lev_piece s P cur [] hl hs hx (by omega) fun x' H' hx' => ?_
  rw [inc_nat _ _ (by omega), inc_nat _ _ (by omega)]
  rw [f76_l0]
  simp only [PR_lenS, PR_bin, PR_cond]
  rw [lenSc, leq64, cond_b, if_neg (by simp; omega)]
  obtain ⟨i, j, e1, e2, e3, e4⟩ := strs_ty
  obtain ⟨ids, ho, hno⟩ := own_res (d := 7) (tyS := 25) (w := 1) (cty := [9]) ⟨_, _, rfl, rfl, rfl, rfl⟩ hx'
  rw [ownTree, ho, Option.bind_some, if_pos hno]
  rfl
 | c :: r, P, cur, m + 1, x, H, cnt, cells, hl, hm, hx, hc => by
  have h1 : s.size = P.length + cur.length + r.length + 1 := by
   have := congrArg List.length hl
   simp at this
   omega
  have hidx : s.data.toList[P.length + cur.length]? = some c := by
   rw [hl, ← List.append_assoc, ← List.length_append, List.getElem?_append_right (Nat.le_refl _), Nat.sub_self]
   rfl
  rw [f76_l0]
  simp only [PR_lenS, PR_bin, PR_cond, PR_guard, PR_pick, PR_sliceS, PR_fill, PR_newSl, PR_app, PR_idx]
  rw [lenSc, leq64, cond_b, if_pos (by simp; omega), lenSc, eql64]
  have he : (((P.length + cur.length : Nat) : Int) == (s.size : Int)) = false := by simp; omega
  refine w_hT he ?_
  refine w_hT he ?_
  refine w_hT he ?_
  rw [idx_s s (P.length + cur.length) c _ hidx]
  refine w_hT he ?_
  refine w_bin (v := .sc (.bool (c == 47))) (fun K => ?_) ?_
  ·show K (.sc (.bool ((c.toNat : Int) == (47 : Int)))) = _
   congr 3
   rw [Bool.eq_iff_iff, beq_iff_eq, beq_iff_eq, show (47 : Int) = (((47 : UInt8).toNat : Nat) : Int) from rfl, Int.ofNat_inj, UInt8.toNat_inj]
  refine w_pF he ?_
  rw [lvL]
  by_cases h47 : c = 47
  ·refine w_cT (by simp [h47]) ?_
   refine lev_piece s P cur (c :: r) hl hs hx (by omega) fun x' H' hx' => ?_
   rw [inc_nat _ _ (by omega), inc_nat _ _ (by omega), if_pos h47]
   have ih := lev_loop n s hs r (P ++ cur ++ [c]) [] m x' H' (cnt + 1) (cells ++ [strC cur]) (by rw [hl]; simp) (by simpa using hm) hx' (by simp; omega)
   simp only [List.length_append, List.length_nil, List.length_singleton, Nat.add_zero] at ih
   rw [ih]
   simp [Nat.add_assoc, Nat.add_comm]
  ·refine w_cF (by simpa using h47) ?_
   rw [inc_nat _ _ (by omega), if_neg h47]
   have ih := lev_loop n s hs r P (cur ++ [c]) m x H cnt cells (by rw [hl]; simp) (by simpa using hm) hx hc
   rw [List.length_append, List.length_singleton, ← Nat.add_assoc] at ih
   exact ih
theorem specLevelsF (n : Nat) (hn : 1048577 < n) (s : ByteArray) (hs : s.size ≤ 1048576) : tree E0 (n + 1) 25 76 [.sc (.string s)] = some (.ro (vLevels s).length ((vLevels s).map fun x => .sc (.string x))) := by
 rw [tree_def, f76_eq, f76]
 have key := lev_loop n s hs s.data.toList [] [] n .nl [] 0 [] rfl (by simp; omega) (OwnS.nil _ _ _ _) (by simp)
 simp only [List.length_nil, Int.natCast_zero, Nat.zero_add, List.nil_append] at key
 rw [key, vLevels, List.length_map, List.map_map]
 rfl
theorem implLevelsF (n : Nat) (s : ByteArray) (hs : s.size ≤ 1048576) : tree E0 (n + 1) 25 73 [.sc (.string s)] = some (.ro (vLevels s).length ((vLevels s).map fun x => .sc (.string x))) := by
 rw [tree_def, f73_eq, f73]
 have hg : ext91 25 [.sc (.string s), .sc (.string ⟨#[47]⟩)] = some (.ro (vLevels s).length ((vLevels s).map fun x => .sc (.string x))) := by
  unfold ext91
  exact if_pos ⟨rfl, rfl, by omega⟩
 rw [PR_ext (g := ext91) rfl (vcons (Vw_sc _ _) (vcons (Vw_sc _ _) vnil)) hg]
 refine own_ret [] _ _ ?_
 refine ⟨_, _, rfl, rfl, by simp, ?_⟩
 have := okLW_rows (f := okW ti0 E0.tp 7) (cty := [9]) (enc := fun x : ByteArray => [.sc (.string x)]) (vLevels s) (fun x _ => ⟨trivial, trivial⟩)
 rw [flat_one] at this
 exact this
theorem containsF (ty : Nat) (s : ByteArray) (hs : s.size ≤ 1048576) : ext72 ty [.sc (.string s), .sc (.string ⟨#[43, 35]⟩)] = some (.sc (.bool (vPH s))) := by
 unfold ext72
 exact if_pos ⟨rfl, by omega⟩
end Go.Proofs.YtejjggnchdldoaaDoor.Abs
set_option linter.unusedVariables false
set_option linter.unusedSimpArgs false
set_option maxRecDepth 100000
namespace Go.Proofs.YtejjggnchdldoaaDoor.Abs
open Go
def vSameMsg (a b : MsgV) : Bool := a.fTopic.toList == b.fTopic.toList && a.fBody.toList == b.fBody.toList && a.fQos == b.fQos && a.fRetain == b.fRetain
theorem implSameMsgF (n : Nat) (ty : Nat) (a : MsgV) (b : MsgV) : tree E0 (n + 2) ty 24 [.agg (encMsg a), .agg (encMsg b)] = some (.sc (.bool (vSameMsg a b))) := by
 rw [tree_def, f24_eq, f24]
 try simp only [PR_box, PR_new, PR_fadr, PR_load, PR_store, PR_bin, PR_binB, PR_binA, PR_un, PR_cond, PR_guard, PR_pick, PR_len, PR_lenS, PR_iadr, PR_idx, PR_slice, PR_sliceS, PR_newSl, PR_fill, PR_make, PR_app, PR_cvI, PR_cvBS]
 refine w_box (flMsg _) fun iB1 eB1 B1 => ?_
 refine w_box (flMsg _) fun iB2 eB2 B2 => ?_
 replace B1 := blk_grow B1 [⟨encMsg b, true, true⟩]
 refine w_fadr ?_
 refine w_ld (c := .sc (.string a.fTopic)) B1 (Nat.le_of_ble_eq_true rfl) rfl ?_
 refine w_fadr ?_
 refine w_ld (c := .sc (.string b.fTopic)) B2 (Nat.le_of_ble_eq_true rfl) rfl ?_
 refine w_bin (v := .sc (.bool (a.fTopic.toList == b.fTopic.toList))) (fun k => rfl) ?_
 apply w_merge ((a.fTopic.toList == b.fTopic.toList) && (a.fBody.toList == b.fBody.toList))
 ·intro b3 q3
  refine w_split ((a.fTopic.toList == b.fTopic.toList)) (fun h3 => ?_) (fun h3 => ?_)
  ·refine w_gT h3 ?_
   refine w_fadr ?_
   refine w_gT h3 ?_
   refine w_ld (c := bytesC a.fBody) B1 (Nat.le_of_ble_eq_true rfl) rfl ?_
   refine w_gT h3 ?_
   refine w_fadr ?_
   refine w_gT h3 ?_
   refine w_ld (c := bytesC b.fBody) B2 (Nat.le_of_ble_eq_true rfl) rfl ?_
   refine w_gT h3 ?_
   refine lw_sc rfl (vcons (Vw_ro _ _ _) (vcons (Vw_ro _ _ _) vnil)) (bytesEqualF (n + 0) _ a.fBody b.fBody) ?_
   refine w_pTb h3 (mAT q3 h3) ?_
   exact rfl
  ·refine w_gF h3 ?_
   refine w_gF h3 ?_
   refine w_gF h3 ?_
   refine w_gF h3 ?_
   refine w_gF h3 ?_
   refine w_pFb h3 (mAF q3 h3) ?_
   exact rfl
 intro b3 q3
 apply w_merge (b3 && (a.fQos == b.fQos))
 ·intro b4 q4
  refine w_split (b3) (fun h4 => ?_) (fun h4 => ?_)
  ·refine w_gT h4 ?_
   refine w_fadr ?_
   refine w_gT h4 ?_
   refine w_ld (c := .sc (.int .i64 a.fQos)) B1 (Nat.le_of_ble_eq_true rfl) rfl ?_
   refine w_gT h4 ?_
   refine w_fadr ?_
   refine w_gT h4 ?_
   refine w_ld (c := .sc (.int .i64 b.fQos)) B2 (Nat.le_of_ble_eq_true rfl) rfl ?_
   refine w_gT h4 ?_
   refine w_bin (v := .sc (.bool (a.fQos == b.fQos))) (fun k => rfl) ?_
   refine w_pTb h4 (mAT q4 h4) ?_
   exact rfl
  ·refine w_gF h4 ?_
   refine w_gF h4 ?_
   refine w_gF h4 ?_
   refine w_gF h4 ?_
   refine w_gF h4 ?_
   refine w_pFb h4 (mAF q4 h4) ?_
   exact rfl
 intro b4 q4
 apply w_merge (b4 && (a.fRetain == b.fRetain))
 ·intro b5 q5
  refine w_split (b4) (fun h5 => ?_) (fun h5 => ?_)
  ·refine w_gT h5 ?_
   refine w_fadr ?_
   refine w_gT h5 ?_
   refine w_ld (c := .sc (.bool a.fRetain)) B1 (Nat.le_of_ble_eq_true rfl) rfl ?_
   refine w_gT h5 ?_
   refine w_fadr ?_
   refine w_gT h5 ?_
   refine w_ld (c := .sc (.bool b.fRetain)) B2 (Nat.le_of_ble_eq_true rfl) rfl ?_
   refine w_gT h5 ?_
   refine w_binB (v := .sc (.bool (a.fRetain == b.fRetain))) (fun k => rfl) ?_
   refine w_pTb h5 (mAT q5 h5) ?_
   exact rfl
  ·refine w_gF h5 ?_
   refine w_gF h5 ?_
   refine w_gF h5 ?_
   refine w_gF h5 ?_
   refine w_gF h5 ?_
   refine w_pFb h5 (mAF q5 h5) ?_
   exact rfl
 intro b5 q5
 exact w_endB (by first | (simp_all [vIn, vSameMsg]; done) | (rw [Bool.eq_iff_iff]; simp [vIn, vSameMsg] at *; omega))
def vSameMsgs (a b : List MsgV) : Bool := if a.length = b.length then all2 vSameMsg a b else false
def vEnds (l q : List MsgV) : Bool := if q.length ≤ l.length then all2 vSameMsg (l.drop (l.length - q.length)) q else false
theorem equalFuncF (n : Nat) (hn : 1048576 < n) (ty : Nat) (l q : List MsgV) (hl : l.length ≤ 1048576) (hq : q.length ≤ 1048576) : tree E0 (n + 4) ty 77 [rowsC encMsg l, rowsC encMsg q, .fn 24 [] []] = some (.sc (.bool (vSameMsgs l q))) := by
 rw [tree_def, f77_eq, f77]
 simp only [PR_len, PR_bin, PR_cond]
 rw [len_ro, len_ro, neq_nat, cond_b, vSameMsgs]
 by_cases h : l.length = q.length
 ·rw [if_neg (by simpa using h), if_pos h]
  have key := eqfunc_loop (n := n + 3) (tb := 4) (g := 24) encMsg vSameMsg (fun x H => ownTree ti0 E0.tp ty H x) (fun _ _ _ => rfl) zzMsg rfl lenMsg (by decide) flMsg rfl (fun m b f a c i H => f77_l0 (PR (n + 3) AV) (n + 3) (fun x H => ownTree ti0 E0.tp ty H x) m b f a c i H) (fun m b f a c i H => rfl) l q (fun x y _ _ => implSameMsgF (n + 1) _ x y) h hl l q [] [] (n + 3) [] rfl rfl rfl (by omega)
  simp only [List.length_nil, Int.natCast_zero] at key
  rw [len_ro, key]
  rfl
 ·rw [if_pos (by simpa using h), if_neg h]
  rfl
theorem implSameMsgsF (n : Nat) (hn : 1048576 < n) (ty : Nat) (l q : List MsgV) (hl : l.length ≤ 1048576) (hq : q.length ≤ 1048576) : tree E0 (n + 5) ty 55 [rowsC encMsg l, rowsC encMsg q] = some (.sc (.bool (vSameMsgs l q))) := by
 rw [tree_def, f55_eq, f55]
 refine lw_sc rfl (vcons (Vw_ro _ _ _) (vcons (Vw_ro _ _ _) (vcons (fun _ => rfl) vnil))) (equalFuncF n hn _ l q hl hq) ?_
 rfl
theorem implEndsF (n : Nat) (hn : 1048576 < n) (ty : Nat) (l q : List MsgV) (hl : l.length ≤ 1048576) (hq : q.length ≤ 1048576) : tree E0 (n + 6) ty 25 [rowsC encMsg l, rowsC encMsg q] = some (.sc (.bool (vEnds l q))) := by
 rw [tree_def, f25_eq, f25]
 simp only [PR_len, PR_bin, PR_cond, PR_guard, PR_slice, PR_pick]
 rw [len_ro, len_ro, leq64, vEnds]
 by_cases h : q.length ≤ l.length
 ·have e : decide ((q.length : Int) ≤ (l.length : Int)) = true := by simpa using h
  have hi : ((l.length : Int) - (q.length : Int)) = ((l.length - q.length : Nat) : Int) := by omega
  rw [if_pos h]
  refine w_gT e ?_
  refine w_gT e ?_
  refine w_gT e ?_
  refine w_len ?_
  refine w_gT e ?_
  refine w_gT e ?_
  refine w_len ?_
  refine w_gT e ?_
  refine w_bin (v := .sc (.int .i64 ((l.length - q.length : Nat) : Int))) (fun k => by rw [sub64 _ _ _ (by omega) (by omega), hi]) ?_
  refine w_gT e ?_
  refine (slice_rows lenMsg _ _ (by omega) _).trans ?_
  refine w_gT e ?_
  refine w_gT e ?_
  refine lw_sc rfl (vcons (Vw_ro _ _ _) (vcons (Vw_ro _ _ _) vnil)) (implSameMsgsF n hn _ (l.drop (l.length - q.length)) q (by rw [List.length_drop]; omega) hq) ?_
  refine w_pT e ?_
  exact w_endB (by rw [vSameMsgs, if_pos (by rw [List.length_drop]; omega)])
 ·have e : decide ((q.length : Int) ≤ (l.length : Int)) = false := by simpa using h
  rw [if_neg h]
  refine w_gF e ?_
  refine w_gF e ?_
  refine w_gF e ?_
  refine w_gF e ?_
  refine w_gF e ?_
  refine w_gF e ?_
  refine w_gF e ?_
  refine w_gF e ?_
  refine w_gF e ?_
  refine w_pF e ?_
  exact w_endB rfl
theorem okS_of {s : ByteArray} (h : s.size ≤ 1048576) : okS s := Nat.le_trans h (by decide)
theorem specTopicF (n : Nat) (hn : 1048576 < n) (ty : Nat) (s : ByteArray) (hs : s.size ≤ 1048576) : tree E0 (n + 5) ty 52 [.sc (.string s)] = some (.sc (.bool (vTopicOk s))) := by
 rw [tree_def, f52_eq, f52]
 try simp only [PR_box, PR_new, PR_fadr, PR_load, PR_store, PR_bin, PR_binB, PR_binA, PR_un, PR_cond, PR_guard, PR_pick, PR_len, PR_lenS, PR_iadr, PR_idx, PR_slice, PR_sliceS, PR_newSl, PR_fill, PR_make, PR_app, PR_cvI, PR_cvBS]
 refine lw_sc rfl (vcons (Vw_sc _ _) vnil) (specTextF (n + 0) (by omega) _ s) ?_
 apply w_merge ((vTextOk s) && (!(s.toList == (⟨#[]⟩ : ByteArray).toList)))
 ·intro b1 q1
  refine w_split ((vTextOk s)) (fun h1 => ?_) (fun h1 => ?_)
  ·refine w_gT h1 ?_
   refine w_gT h1 ?_
   refine w_bin (v := .sc (.bool (!(s.toList == (⟨#[]⟩ : ByteArray).toList)))) (fun k => rfl) ?_
   refine w_pTb h1 (mAT q1 h1) ?_
   exact rfl
  ·refine w_gF h1 ?_
   refine w_gF h1 ?_
   refine w_pFb h1 (mAF q1 h1) ?_
   exact rfl
 intro b1 q1
 apply w_merge (b1 && (!(vHas s 43)))
 ·intro b2 q2
  refine w_split (b1) (fun h2 => ?_) (fun h2 => ?_)
  ·refine w_gT h2 ?_
   refine w_gT h2 ?_
   refine lw_sc rfl (vcons (Vw_sc _ _) (vcons (Vw_sc _ _) vnil)) (has43 (n + 3) (by omega) _ s hs) ?_
   refine w_gT h2 ?_
   refine w_not ?_
   refine w_pTb h2 (mAT q2 h2) ?_
   exact rfl
  ·refine w_gF h2 ?_
   refine w_gF h2 ?_
   refine w_gF h2 ?_
   refine w_pFb h2 (mAF q2 h2) ?_
   exact rfl
 intro b2 q2
 apply w_merge (b2 && (!(vHas s 35)))
 ·intro b3 q3
  refine w_split (b2) (fun h3 => ?_) (fun h3 => ?_)
  ·refine w_gT h3 ?_
   refine w_gT h3 ?_
   refine lw_sc rfl (vcons (Vw_sc _ _) (vcons (Vw_sc _ _) vnil)) (has35 (n + 3) (by omega) _ s hs) ?_
   refine w_gT h3 ?_
   refine w_not ?_
   refine w_pTb h3 (mAT q3 h3) ?_
   exact rfl
  ·refine w_gF h3 ?_
   refine w_gF h3 ?_
   refine w_gF h3 ?_
   refine w_pFb h3 (mAF q3 h3) ?_
   exact rfl
 intro b3 q3
 apply w_merge (b3 && (decide (((vLevels s).length : Int) ≤ 6)))
 ·intro b4 q4
  refine w_split (b3) (fun h4 => ?_) (fun h4 => ?_)
  ·refine w_gT h4 ?_
   refine w_gT h4 ?_
   refine lw_list rfl (vcons (Vw_sc _ _) vnil) (specLevelsF (n + 3) (by omega) s hs) fun N5 X5 z5 => ?_
   refine w_gT h4 ?_
   refine w_lenL ?_
   refine w_gT h4 ?_
   refine w_bin (v := .sc (.bool (decide (((vLevels s).length : Int) ≤ 6)))) (fun k => rfl) ?_
   refine w_pTb h4 (mAT q4 h4) ?_
   exact rfl
  ·refine w_gF h4 ?_
   refine w_gF h4 ?_
   refine w_gF h4 ?_
   refine w_gF h4 ?_
   refine w_pFb h4 (mAF q4 h4) ?_
   exact rfl
 intro b4 q4
 exact w_endS (by subst_vars; unfold vTopicOk; first | rfl | (unfold vPH; cases vTextOk s <;> cases vHas s 43 <;> cases vHas s 35 <;> simp))
theorem implTopicF (n : Nat) (hn : 1048576 < n) (ty : Nat) (s : ByteArray) (hs : s.size ≤ 1048576) : tree E0 (n + 5) ty 50 [.sc (.string s)] = some (.sc (.bool (vTopicOk s))) := by
 rw [tree_def, f50_eq, f50]
 try simp only [PR_box, PR_new, PR_fadr, PR_load, PR_store, PR_bin, PR_binB, PR_binA, PR_un, PR_cond, PR_guard, PR_pick, PR_len, PR_lenS, PR_iadr, PR_idx, PR_slice, PR_sliceS, PR_newSl, PR_fill, PR_make, PR_app, PR_cvI, PR_cvBS]
 refine lw_ext rfl (vcons (Vw_sc _ _) vnil) (implTextF _ s (okS_of hs)) ?_
 apply w_merge ((vTextOk s) && (!(s.toList == (⟨#[]⟩ : ByteArray).toList)))
 ·intro b1 q1
  refine w_split ((vTextOk s)) (fun h1 => ?_) (fun h1 => ?_)
  ·refine w_gT h1 ?_
   refine w_gT h1 ?_
   refine w_bin (v := .sc (.bool (!(s.toList == (⟨#[]⟩ : ByteArray).toList)))) (fun k => rfl) ?_
   refine w_pTb h1 (mAT q1 h1) ?_
   exact rfl
  ·refine w_gF h1 ?_
   refine w_gF h1 ?_
   refine w_pFb h1 (mAF q1 h1) ?_
   exact rfl
 intro b1 q1
 apply w_merge (b1 && (!(vPH s)))
 ·intro b2 q2
  refine w_split (b1) (fun h2 => ?_) (fun h2 => ?_)
  ·refine w_gT h2 ?_
   refine w_gT h2 ?_
   refine lw_ext rfl (vcons (Vw_sc _ _) (vcons (Vw_sc _ _) vnil)) (containsF _ s hs) ?_
   refine w_gT h2 ?_
   refine w_not ?_
   refine w_pTb h2 (mAT q2 h2) ?_
   exact rfl
  ·refine w_gF h2 ?_
   refine w_gF h2 ?_
   refine w_gF h2 ?_
   refine w_pFb h2 (mAF q2 h2) ?_
   exact rfl
 intro b2 q2
 apply w_merge (b2 && (decide (((vLevels s).length : Int) ≤ 6)))
 ·intro b3 q3
  refine w_split (b2) (fun h3 => ?_) (fun h3 => ?_)
  ·refine w_gT h3 ?_
   refine w_gT h3 ?_
   refine lw_list rfl (vcons (Vw_sc _ _) vnil) (implLevelsF (n + 3) s hs) fun N4 X4 z4 => ?_
   refine w_gT h3 ?_
   refine w_lenL ?_
   refine w_gT h3 ?_
   refine w_bin (v := .sc (.bool (decide (((vLevels s).length : Int) ≤ 6)))) (fun k => rfl) ?_
   refine w_pTb h3 (mAT q3 h3) ?_
   exact rfl
  ·refine w_gF h3 ?_
   refine w_gF h3 ?_
   refine w_gF h3 ?_
   refine w_gF h3 ?_
   refine w_pFb h3 (mAF q3 h3) ?_
   exact rfl
 intro b3 q3
 exact w_endS (by subst_vars; unfold vTopicOk; first | rfl | (unfold vPH; cases vTextOk s <;> cases vHas s 43 <;> cases vHas s 35 <;> simp))
def vMsgOk (m : MsgV) : Bool := vTopicOk m.fTopic && decide ((m.fBody.size : Int) ≤ 40) && vIn m.fQos 0 2
theorem isQosF (n : Nat) (ty : Nat) (x : Int) : tree E0 (n + 2) ty 51 [.sc (.int .i64 x)] = some (.sc (.bool (vIn x 0 2))) := by
 rw [tree_def, f51_eq, f51]
 try simp only [PR_box, PR_new, PR_fadr, PR_load, PR_store, PR_bin, PR_binB, PR_binA, PR_un, PR_cond, PR_guard, PR_pick, PR_len, PR_lenS, PR_iadr, PR_idx, PR_slice, PR_sliceS, PR_newSl, PR_fill, PR_make, PR_app, PR_cvI, PR_cvBS]
 refine lw_sc rfl (vcons (Vw_sc _ _) (vcons (Vw_sc _ _) (vcons (Vw_sc _ _) vnil))) (withinF (n + 0) _ x 0 2) ?_
 exact w_endB (by first | (simp_all [vIn, vSameMsg, vEnds, vTopicOk, vMsgOk]; done) | (rw [Bool.eq_iff_iff]; simp [vIn, vSameMsg, vEnds, vTopicOk, vMsgOk] at *; omega))
theorem specMsgF (n : Nat) (hn : 1048576 < n) (ty : Nat) (m : MsgV) (hs : m.fTopic.size ≤ 1048576) : tree E0 (n + 6) ty 21 [.agg (encMsg m)] = some (.sc (.bool (vMsgOk m))) := by
 rw [tree_def, f21_eq, f21]
 try simp only [PR_box, PR_new, PR_fadr, PR_load, PR_store, PR_bin, PR_binB, PR_binA, PR_un, PR_cond, PR_guard, PR_pick, PR_len, PR_lenS, PR_iadr, PR_idx, PR_slice, PR_sliceS, PR_newSl, PR_fill, PR_make, PR_app, PR_cvI, PR_cvBS]
 refine w_box (flMsg _) fun iB1 eB1 B1 => ?_
 refine w_fadr ?_
 refine w_ld (c := .sc (.string m.fTopic)) B1 (Nat.le_of_ble_eq_true rfl) rfl ?_
 refine lw_sc rfl (vcons (Vw_sc _ _) vnil) (specTopicF (n + 0) (by omega) _ m.fTopic (by assumption)) ?_
 apply w_merge ((vTopicOk m.fTopic) && (decide ((m.fBody.size : Int) ≤ 40)))
 ·intro b2 q2
  refine w_split ((vTopicOk m.fTopic)) (fun h2 => ?_) (fun h2 => ?_)
  ·refine w_gT h2 ?_
   refine w_fadr ?_
   refine w_gT h2 ?_
   refine w_ld (c := bytesC m.fBody) B1 (Nat.le_of_ble_eq_true rfl) rfl ?_
   refine w_gT h2 ?_
   refine w_len ?_
   refine w_gT h2 ?_
   refine w_bin (v := .sc (.bool (decide ((m.fBody.size : Int) ≤ 40)))) (fun k => rfl) ?_
   refine w_pTb h2 (mAT q2 h2) ?_
   exact rfl
  ·refine w_gF h2 ?_
   refine w_gF h2 ?_
   refine w_gF h2 ?_
   refine w_gF h2 ?_
   refine w_pFb h2 (mAF q2 h2) ?_
   exact rfl
 intro b2 q2
 apply w_merge (b2 && (vIn m.fQos 0 2))
 ·intro b3 q3
  refine w_split (b2) (fun h3 => ?_) (fun h3 => ?_)
  ·refine w_gT h3 ?_
   refine w_fadr ?_
   refine w_gT h3 ?_
   refine w_ld (c := .sc (.int .i64 m.fQos)) B1 (Nat.le_of_ble_eq_true rfl) rfl ?_
   refine w_gT h3 ?_
   refine lw_sc rfl (vcons (Vw_sc _ _) (vcons (Vw_sc _ _) (vcons (Vw_sc _ _) vnil))) (l1InF (n + 4) _ m.fQos 0 2) ?_
   refine w_pTb h3 (mAT q3 h3) ?_
   exact rfl
  ·refine w_gF h3 ?_
   refine w_gF h3 ?_
   refine w_gF h3 ?_
   refine w_pFb h3 (mAF q3 h3) ?_
   exact rfl
 intro b3 q3
 exact w_endB (by subst_vars; first | rfl | (simp only [vMsgOk]; done) | (simp only [vMsgOk]; ac_rfl))
theorem implMsgF (n : Nat) (hn : 1048576 < n) (ty : Nat) (m : MsgV) (hs : m.fTopic.size ≤ 1048576) : tree E0 (n + 6) ty 20 [.agg (encMsg m)] = some (.sc (.bool (vMsgOk m))) := by
 rw [tree_def, f20_eq, f20]
 try simp only [PR_box, PR_new, PR_fadr, PR_load, PR_store, PR_bin, PR_binB, PR_binA, PR_un, PR_cond, PR_guard, PR_pick, PR_len, PR_lenS, PR_iadr, PR_idx, PR_slice, PR_sliceS, PR_newSl, PR_fill, PR_make, PR_app, PR_cvI, PR_cvBS]
 refine w_box (flMsg _) fun iB1 eB1 B1 => ?_
 refine w_fadr ?_
 refine w_ld (c := .sc (.string m.fTopic)) B1 (Nat.le_of_ble_eq_true rfl) rfl ?_
 refine lw_sc rfl (vcons (Vw_sc _ _) vnil) (implTopicF (n + 0) (by omega) _ m.fTopic (by assumption)) ?_
 apply w_merge ((vTopicOk m.fTopic) && (decide ((m.fBody.size : Int) ≤ 40)))
 ·intro b2 q2
  refine w_split ((vTopicOk m.fTopic)) (fun h2 => ?_) (fun h2 => ?_)
  ·refine w_gT h2 ?_
   refine w_fadr ?_
   refine w_gT h2 ?_
   refine w_ld (c := bytesC m.fBody) B1 (Nat.le_of_ble_eq_true rfl) rfl ?_
   refine w_gT h2 ?_
   refine w_len ?_
   refine w_gT h2 ?_
   refine w_bin (v := .sc (.bool (decide ((m.fBody.size : Int) ≤ 40)))) (fun k => rfl) ?_
   refine w_pTb h2 (mAT q2 h2) ?_
   exact rfl
  ·refine w_gF h2 ?_
   refine w_gF h2 ?_
   refine w_gF h2 ?_
   refine w_gF h2 ?_
   refine w_pFb h2 (mAF q2 h2) ?_
   exact rfl
 intro b2 q2
 apply w_merge (b2 && (vIn m.fQos 0 2))
 ·intro b3 q3
  refine w_split (b2) (fun h3 => ?_) (fun h3 => ?_)
  ·refine w_gT h3 ?_
   refine w_fadr ?_
   refine w_gT h3 ?_
   refine w_ld (c := .sc (.int .i64 m.fQos)) B1 (Nat.le_of_ble_eq_true rfl) rfl ?_
   refine w_gT h3 ?_
   refine lw_sc rfl (vcons (Vw_sc _ _) vnil) (isQosF (n + 3) _ m.fQos) ?_
   refine w_pTb h3 (mAT q3 h3) ?_
   exact rfl
  ·refine w_gF h3 ?_
   refine w_gF h3 ?_
   refine w_gF h3 ?_
   refine w_pFb h3 (mAF q3 h3) ?_
   exact rfl
 intro b3 q3
 exact w_endB (by subst_vars; first | rfl | (simp only [vMsgOk]; done) | (simp only [vMsgOk]; ac_rfl))
def vQueueOk (l : List MsgV) : Bool := l.all vMsgOk && decide ((l.length : Int) ≤ 6)
theorem all_go {α : Type} (p : α → Bool) (e : Bool) (go : List α → List α → Bool) (h0 : ∀ pre, go pre [] = e) (h1 : ∀ pre x r, go pre (x :: r) = (p x && go (pre ++ [x]) r)) : ∀ (r pre : List α), go pre r = (r.all p && e)
 | [], pre => by rw [h0]; simp
 | x :: r, pre => by rw [h1, all_go p e go h0 h1 r, List.all_cons, Bool.and_assoc]
def goQs (l : List MsgV) : List MsgV → List MsgV → Bool
 | pre, [] => decide ((l.length : Int) ≤ 6)
 | pre, x :: r => vMsgOk x && goQs l (pre ++ [x]) r
theorem specQ_loop (n : Nat) (hn : 1048576 < n) (ty : Nat) (l : List MsgV) (hlen : l.length ≤ 1048576) (hsl : ∀ x ∈ l, x.fTopic.size ≤ 1048576) : ∀ (r pre : List MsgV) (m : Nat) (H : Heap), l = pre ++ r → r.length < m → f19_l0 (PR (n + 6) AV) (n + 6) (fun x H => ownTree ti0 E0.tp ty H x) m (rowsC encMsg l) (.sc (.int .i64 pre.length)) H = some (.sc (.bool (goQs l pre r)))
 | [], pre, m + 1, H, hl, hm => by
  have hlt : decide ((pre.length : Int) < (l.length : Int)) = false := by
   rw [hl]
   simp
  show (PR (n + 6) AV).len _ _ = _
  simp only [PR_box, PR_new, PR_fadr, PR_load, PR_store, PR_bin, PR_binB, PR_binA, PR_un, PR_cond, PR_guard, PR_pick, PR_len, PR_lenS, PR_iadr, PR_idx, PR_slice, PR_sliceS, PR_newSl, PR_fill, PR_make, PR_app, PR_cvI, PR_cvBS]
  refine w_len ?_
  refine w_bin (v := .sc (.bool (decide ((pre.length : Int) < (l.length : Int))))) (fun k => rfl) ?_
  refine w_cF hlt ?_
  refine w_len ?_
  refine w_bin (v := .sc (.bool (decide ((l.length : Int) ≤ 6)))) (fun k => rfl) ?_
  exact w_endB (by first | (subst_vars; simp only [goQs]; simp_all; done) | (subst_vars; unfold goQs; simp_all))
 | x :: r, pre, m + 1, H, hl, hm => by
  have hpl : pre.length < l.length := by rw [hl]; simp
  have hlt : decide ((pre.length : Int) < (l.length : Int)) = true := by simpa using hpl
  have hmem : x ∈ l := by rw [hl]; simp
  have hix : IntKind.i64.wrap ((pre.length : Int) + 1) = (((pre ++ [x]).length : Nat) : Int) := by
   rw [wrap64 _ (by omega) (by omega), List.length_append, List.length_singleton]
   rfl
  try have hs : x.fTopic.size ≤ 1048576 := hsl x (by assumption)
  show (PR (n + 6) AV).len _ _ = _
  simp only [PR_box, PR_new, PR_fadr, PR_load, PR_store, PR_bin, PR_binB, PR_binA, PR_un, PR_cond, PR_guard, PR_pick, PR_len, PR_lenS, PR_iadr, PR_idx, PR_slice, PR_sliceS, PR_newSl, PR_fill, PR_make, PR_app, PR_cvI, PR_cvBS]
  refine w_len ?_
  refine w_bin (v := .sc (.bool (decide ((pre.length : Int) < (l.length : Int))))) (fun k => rfl) ?_
  refine w_cT hlt ?_
  refine w_iadrE lenMsg (by decide) hl ?_
  refine w_ldA_rp (ds := encMsg x) (Nat.le_of_ble_eq_true rfl) rfl ?_
  refine lw_sc rfl (vcons (Vw_agg _ (flMsg _)) vnil) (specMsgF (n + 0) (by omega) _ x (by assumption)) ?_
  refine w_not ?_
  refine w_split ((vMsgOk x)) (fun h1 => ?_) (fun h1 => ?_)
  ·refine w_cF (nF h1) ?_
   refine w_bin (v := .sc (.int .i64 (IntKind.i64.wrap ((pre.length : Int) + 1)))) (fun k => rfl) ?_
   rw [hix]
   refine (specQ_loop n hn ty l hlen hsl r (pre ++ [x]) m _  (by rw [hl]; simp) (by simpa using hm)).trans (congrArg (fun b => some (AV.sc (Value.bool b))) ?_)
   first | (subst_vars; simp only [goQs]; simp_all; done) | (subst_vars; unfold goQs; simp_all)
  ·refine w_cT (nT h1) ?_
   exact w_endB (by first | (subst_vars; simp only [goQs]; simp_all; done) | (subst_vars; unfold goQs; simp_all))
def goQi : List MsgV → List MsgV → Bool
 | pre, [] => true
 | pre, x :: r => vMsgOk x && goQi (pre ++ [x]) r
theorem implQ_loop (n : Nat) (hn : 1048576 < n) (ty : Nat) (l : List MsgV) (hlen : l.length ≤ 1048576) (hsl : ∀ x ∈ l, x.fTopic.size ≤ 1048576) : ∀ (r pre : List MsgV) (m : Nat) (H : Heap), l = pre ++ r → r.length < m → f49_l0 (PR (n + 6) AV) (n + 6) (fun x H => ownTree ti0 E0.tp ty H x) m (rowsC encMsg l) (.sc (.int .i64 (l.length : Int))) (.sc (.int .i64 pre.length)) H = some (.sc (.bool (goQi pre r)))
 | [], pre, m + 1, H, hl, hm => by
  have hlt : decide ((pre.length : Int) < (l.length : Int)) = false := by
   rw [hl]
   simp
  show (PR (n + 6) AV).bin _ _ _ _ = _
  simp only [PR_box, PR_new, PR_fadr, PR_load, PR_store, PR_bin, PR_binB, PR_binA, PR_un, PR_cond, PR_guard, PR_pick, PR_len, PR_lenS, PR_iadr, PR_idx, PR_slice, PR_sliceS, PR_newSl, PR_fill, PR_make, PR_app, PR_cvI, PR_cvBS]
  refine w_bin (v := .sc (.bool (decide ((pre.length : Int) < (l.length : Int))))) (fun k => rfl) ?_
  refine w_cF hlt ?_
  exact w_endB (by first | (subst_vars; simp only [goQi]; simp_all; done) | (subst_vars; unfold goQi; simp_all))
 | x :: r, pre, m + 1, H, hl, hm => by
  have hpl : pre.length < l.length := by rw [hl]; simp
  have hlt : decide ((pre.length : Int) < (l.length : Int)) = true := by simpa using hpl
  have hmem : x ∈ l := by rw [hl]; simp
  have hix : IntKind.i64.wrap ((pre.length : Int) + 1) = (((pre ++ [x]).length : Nat) : Int) := by
   rw [wrap64 _ (by omega) (by omega), List.length_append, List.length_singleton]
   rfl
  try have hs : x.fTopic.size ≤ 1048576 := hsl x (by assumption)
  show (PR (n + 6) AV).bin _ _ _ _ = _
  simp only [PR_box, PR_new, PR_fadr, PR_load, PR_store, PR_bin, PR_binB, PR_binA, PR_un, PR_cond, PR_guard, PR_pick, PR_len, PR_lenS, PR_iadr, PR_idx, PR_slice, PR_sliceS, PR_newSl, PR_fill, PR_make, PR_app, PR_cvI, PR_cvBS]
  refine w_bin (v := .sc (.bool (decide ((pre.length : Int) < (l.length : Int))))) (fun k => rfl) ?_
  refine w_cT hlt ?_
  refine w_iadrE lenMsg (by decide) hl ?_
  refine w_ldA_rp (ds := encMsg x) (Nat.le_of_ble_eq_true rfl) rfl ?_
  refine lw_put rfl (lenMsg _) (fl_leaf (flMsg _)) fun iB1 B1 => ?_
  refine w_ldA (ds := encMsg x) B1 (Nat.le_of_ble_eq_true rfl) rfl ?_
  refine lw_sc rfl (vcons (Vw_agg _ (flMsg _)) vnil) (implMsgF (n + 0) (by omega) _ x (by assumption)) ?_
  refine w_not ?_
  refine w_split ((vMsgOk x)) (fun h2 => ?_) (fun h2 => ?_)
  ·refine w_cF (nF h2) ?_
   refine w_bin (v := .sc (.int .i64 (IntKind.i64.wrap ((pre.length : Int) + 1)))) (fun k => rfl) ?_
   rw [hix]
   refine (implQ_loop n hn ty l hlen hsl r (pre ++ [x]) m _  (by rw [hl]; simp) (by simpa using hm)).trans (congrArg (fun b => some (AV.sc (Value.bool b))) ?_)
   first | (subst_vars; simp only [goQi]; simp_all; done) | (subst_vars; unfold goQi; simp_all)
  ·refine w_cT (nT h2) ?_
   exact w_endB (by first | (subst_vars; simp only [goQi]; simp_all; done) | (subst_vars; unfold goQi; simp_all))
theorem specQueueF (n : Nat) (hn : 1048576 < n) (ty : Nat) (l : List MsgV) (hlen : l.length ≤ 1048576) (hsl : ∀ x ∈ l, x.fTopic.size ≤ 1048576) : tree E0 (n + 7) ty 19 [rowsC encMsg l] = some (.sc (.bool (vQueueOk l))) := by
 rw [tree_def, f19_eq, f19]
 have key := specQ_loop n hn ty l hlen hsl l [] (n + 6) [] rfl (by omega)
 rw [all_go vMsgOk (decide ((l.length : Int) ≤ 6)) (goQs l) (fun _ => rfl) (fun _ _ _ => rfl) l []] at key
 exact key
theorem implMsgsF (n : Nat) (hn : 1048576 < n) (ty : Nat) (l : List MsgV) (hlen : l.length ≤ 1048576) (hsl : ∀ x ∈ l, x.fTopic.size ≤ 1048576) : tree E0 (n + 7) ty 49 [rowsC encMsg l] = some (.sc (.bool (l.all vMsgOk))) := by
 rw [tree_def, f49_eq, f49]
 simp only [PR_len]
 refine w_len ?_
 have key := implQ_loop n hn ty l hlen hsl l [] (n + 6) [] rfl (by omega)
 rw [all_go vMsgOk true goQi (fun _ => rfl) (fun _ _ _ => rfl) l [], Bool.and_true] at key
 exact key
theorem implQueueF (n : Nat) (hn : 1048576 < n) (ty : Nat) (l : List MsgV) (hlen : l.length ≤ 1048576) (hsl : ∀ x ∈ l, x.fTopic.size ≤ 1048576) : tree E0 (n + 8) ty 18 [rowsC encMsg l] = some (.sc (.bool (vQueueOk l))) := by
 rw [tree_def, f18_eq, f18]
 try simp only [PR_box, PR_new, PR_fadr, PR_load, PR_store, PR_bin, PR_binB, PR_binA, PR_un, PR_cond, PR_guard, PR_pick, PR_len, PR_lenS, PR_iadr, PR_idx, PR_slice, PR_sliceS, PR_newSl, PR_fill, PR_make, PR_app, PR_cvI, PR_cvBS]
 refine w_len ?_
 refine w_bin (v := .sc (.bool (decide ((l.length : Int) ≤ 6)))) (fun k => rfl) ?_
 apply w_merge ((decide ((l.length : Int) ≤ 6)) && (l.all vMsgOk))
 ·intro b1 q1
  refine w_split ((decide ((l.length : Int) ≤ 6))) (fun h1 => ?_) (fun h1 => ?_)
  ·refine w_gT h1 ?_
   refine w_gT h1 ?_
   refine lw_sc rfl (vcons (Vw_ro _ _ _) vnil) (implMsgsF (n + 0) (by omega) _ l (by assumption) (by assumption)) ?_
   refine w_pTb h1 (mAT q1 h1) ?_
   exact rfl
  ·refine w_gF h1 ?_
   refine w_gF h1 ?_
   refine w_pFb h1 (mAF q1 h1) ?_
   exact rfl
 intro b1 q1
 exact w_endB (by subst_vars; unfold vQueueOk; rw [Bool.and_comm])
theorem queue_hyp (l : List MsgV) (b0 : wtL wtMsg l ≤ 1048576) : l.length ≤ 1048576 ∧ ∀ x ∈ l, x.fTopic.size ≤ 1048576 := by
 have h1 := wtL_eq wtMsg l
 refine ⟨by omega, fun x hx => ?_⟩
 have h2 := wtS_mem (wt := wtMsg) hx
 have h3 : wtMsg x = x.fTopic.size + (x.fBody.size + 0) := rfl
 omega
theorem specF_QueueOk (n : Nat) (hn : 1048576 < n) (l : List MsgV) (k0 : l.length ≤ 9223372036854775807 ∧ ∀ z ∈ l, okMsg z) (b0 : wtL wtMsg l ≤ 1048576) : tree E0 (n + 8) 4 19 [rowsC encMsg l] = some (.sc (.bool (vQueueOk l))) := specQueueF (n + 1) (by omega) _ l (queue_hyp l b0).1 (queue_hyp l b0).2
theorem implF_QueueOk (n : Nat) (hn : 1048576 < n) (l : List MsgV) (k0 : l.length ≤ 9223372036854775807 ∧ ∀ z ∈ l, okMsg z) (b0 : wtL wtMsg l ≤ 1048576) : tree E0 (n + 8) 4 18 [rowsC encMsg l] = some (.sc (.bool (vQueueOk l))) := implQueueF n hn _ l (queue_hyp l b0).1 (queue_hyp l b0).2
end Go.Proofs.YtejjggnchdldoaaDoor.Abs
set_option linter.unusedVariables false
set_option linter.unusedSimpArgs false
set_option maxRecDepth 100000
namespace Go.Proofs.YtejjggnchdldoaaDoor.Abs
open Go
def vPush (q : List MsgV) (m : MsgV) : List MsgV := if (vQueueOk q && vMsgOk m) = true ∧ q.length < 6 then q ++ [m] else q
def vPushC (q : List MsgV) (m : MsgV) : Int := if (vQueueOk q && vMsgOk m) = true then (if q.length < 6 then 0 else if m.fQos == 0 then 1 else 2) else 2
theorem tup_own {ty : Nat} {H : Heap} {ts : List Nat} {raw cells : List AV} {ids : List Nat} (hts : E0.tp ty = some ts) (h : ownL (ownT ti0 E0.tp H 7) ts raw = some (cells, ids)) (hn : ids.Nodup) : ownTree ti0 E0.tp ty H (.tup raw) = some (.tup cells) := by
 rw [ownTree, ownT_tup, hts, Option.bind_some, h, Option.bind_some, Option.bind_some, if_pos hn]
theorem ownS_inst {α : Type} {H : Heap} {w tyS : Nat} {cty : List Nat} {enc : α → List AV} (hw : ∀ x, (enc x).length = w) (hty : ∃ i j, ti0 tyS = some i ∧ ti0 i.elem = some j ∧ j.size = w ∧ j.cty = cty) (hc : cty.length = w) (hok : ∀ x, okLW (okW ti0 E0.tp 6) cty (enc x)) (l : List α) :
  OwnS 6 (H ++ (instT ti0 E0.tp H.length tyS (rowsC enc l)).2) w cty (instT ti0 E0.tp H.length tyS (rowsC enc l)).1 l.length (l.map enc).flatten := by
 obtain ⟨i, j, h1, h2, rfl, rfl⟩ := hty
 have hi : instT ti0 E0.tp H.length tyS (rowsC enc l) = (.sl H.length 0 l.length j.size, ⟨(instL ti0 E0.tp (H.length + 1) (List.replicate l.length j.cty).flatten (l.map enc).flatten).1, true, true⟩ :: (instL ti0 E0.tp (H.length + 1) (List.replicate l.length j.cty).flatten (l.map enc).flatten).2) := by
  show instT ti0 E0.tp H.length tyS (.ro l.length (l.map enc).flatten) = _
  simp only [instT, h1, Option.bind_some, h2, Option.getD_some]
 rw [hi]
 simp only
 generalize hQ : instL ti0 E0.tp (H.length + 1) (List.replicate l.length j.cty).flatten (l.map enc).flatten = Q
 have lQ : Lies (H ++ ⟨Q.1, true, true⟩ :: Q.2) (H.length + 1) Q.2 := by
  have := Lies_end (H ++ [⟨Q.1, true, true⟩]) Q.2
  rw [List.length_append, List.length_singleton, List.append_assoc] at this
  exact this
 have ho : OwnC 6 (H ++ ⟨Q.1, true, true⟩ :: Q.2) (List.replicate l.length j.cty).flatten Q.1 (l.map enc).flatten (List.range' (H.length + 1) Q.2.length) := by
  have := own_instL (H := H ++ ⟨Q.1, true, true⟩ :: Q.2) (fun ty t N h h' _ => own_inst 6 ty t N h h') (List.replicate l.length j.cty).flatten (l.map enc).flatten (H.length + 1) (okLW_rows l fun x _ => hok x) (by rw [hQ]; exact lQ) (instL_live _ _ _)
  rw [hQ] at this
  exact this
 refine .inr ⟨H.length, Q.1, _, rfl, get_at _ _ _, by rw [← hQ, instL_len, rows_len hw], ho, ?_⟩
 rw [List.nodup_cons]
 refine ⟨fun hm => ?_, List.nodup_range'⟩
 rw [List.mem_range'_1] at hm
 omega
theorem own2 {H : Heap} {tyT : Nat} {k : Nat} {x : AV} {cells : List AV} {c : Int} (hts : E0.tp tyT = some [37, 3]) (h : OwnS 6 H 4 ctyMsg x k cells) : ownTree ti0 E0.tp tyT H (.tup [x, .sc (.int .i64 c)]) = some (.tup [.ro k cells, .sc (.int .i64 c)]) := by
 obtain ⟨ids, ho, hno⟩ := own_res (d := 6) (tyS := 37) tyMsgS h
 refine tup_own hts (ids := ids) ?_ hno
 simp only [ownL, ho, ownT_sc, Option.bind_some, List.append_nil]
theorem specF_Push (n : Nat) (hn : 1048576 < n) (x0 : List MsgV) (x1 : MsgV) (k0 : x0.length ≤ 9223372036854775807 ∧ ∀ z ∈ x0, okMsg z) (k1 : okMsg x1) (b0 : wtL wtMsg x0 ≤ 1048576) (b1 : wtMsg x1 ≤ 1048576) : tree E0 (n + 8) 42 17 [rowsC encMsg x0, .agg (encMsg x1)] = some (.tup [rowsC encMsg (vPush x0 x1), .sc (.int .i64 (vPushC x0 x1))]) := by
 obtain ⟨hlen, htop⟩ := queue_hyp x0 b0
 have hsm := (smwS smMsg smwMsg x0 b0).2
 have hs : ∀ x ∈ x0, x.fBody.size ≤ 1048576 := fun x hx => (hsm x hx).1
 have hm : x1.fBody.size ≤ 1048576 := (smwMsg x1 b1).1
 have ht : x1.fTopic.size ≤ 1048576 := by unfold wtMsg at b1; omega
 rw [tree_def, f17_eq, f17]
 simp only [PR_box, PR_un, PR_guard, PR_load, PR_pick, PR_cond, PR_len, PR_bin, PR_fadr, PR_fill, PR_newSl, PR_app]
 refine w_box (flMsg _) fun i e hi => ?_
 rw [PR_call (vs := [rowsC encMsg x0]) rfl (vcons (Vw_ro _ _ _) vnil) (l12CopyF (n + 4) (by omega) x0 hlen hs)]
 have hO := ownS_inst (H := [] ++ [⟨encMsg x1, true, true⟩]) lenMsg tyMsgS rfl (okWMsg 4) x0
 replace hi := blk_grow hi (instT ti0 E0.tp ([] ++ [⟨encMsg x1, true, true⟩] : Heap).length 37 (rowsC encMsg x0)).2
 generalize (instT ti0 E0.tp ([] ++ [⟨encMsg x1, true, true⟩] : Heap).length 37 (rowsC encMsg x0)).1 = y at hO ⊢
 generalize ([] ++ [⟨encMsg x1, true, true⟩] ++ (instT ti0 E0.tp ([] ++ [⟨encMsg x1, true, true⟩] : Heap).length 37 (rowsC encMsg x0)).2 : Heap) = G at hO hi ⊢
 refine lw_sc rfl (vcons (Vw_ro _ _ _) vnil) (specQueueF n hn _ x0 hlen htop) ?_
 refine w_not ?_
 cases hq : vQueueOk x0
 ·refine w_hF rfl ?_
  refine w_hF rfl ?_
  refine w_hF rfl ?_
  refine w_pT rfl ?_
  refine w_cT rfl ?_
  have e1 : vPush x0 x1 = x0 := by simp [vPush, hq]
  have e2 : vPushC x0 x1 = 2 := by simp [vPushC, hq]
  rw [e1, e2]
  exact own2 rfl hO
 ·refine w_hT rfl ?_
  refine lw_ld hi (lenMsg _) ?_
  refine w_hT rfl ?_
  refine lw_sc rfl (vcons (Vw_agg _ (flMsg _)) vnil) (specMsgF (n + 1) (by omega) _ x1 ht) ?_
  refine w_hT rfl ?_
  refine w_not ?_
  refine w_pF rfl ?_
  cases hmk : vMsgOk x1
  ·refine w_cT rfl ?_
   have e1 : vPush x0 x1 = x0 := by simp [vPush, hq, hmk]
   have e2 : vPushC x0 x1 = 2 := by simp [vPushC, hq, hmk]
   rw [e1, e2]
   exact own2 rfl hO
  ·refine w_cF rfl ?_
   refine w_len ?_
   refine w_bin (v := .sc (.bool ((x0.length : Int) == 6))) (fun k => rfl) ?_
   have hl6 : x0.length ≤ 6 := by
    unfold vQueueOk at hq
    simp at hq
    omega
   by_cases h6 : x0.length = 6
   ·refine w_cT (by simp [h6]) ?_
    refine w_fadr ?_
    refine w_ld (c := .sc (.int .i64 x1.fQos)) hi (Nat.le_of_ble_eq_true rfl) rfl ?_
    refine w_bin (v := .sc (.bool (x1.fQos == 0))) (fun k => rfl) ?_
    have e1 : vPush x0 x1 = x0 := by simp [vPush, h6]
    rw [e1]
    cases hz : (x1.fQos == 0)
    ·refine w_cF rfl ?_
     have e2 : vPushC x0 x1 = 2 := by simp [vPushC, h6, hq, hmk, hz]
     rw [e2]
     exact own2 rfl hO
    ·refine w_cT rfl ?_
     have e2 : vPushC x0 x1 = 1 := by simp [vPushC, h6, hq, hmk, hz]
     rw [e2]
     exact own2 rfl hO
   ·refine w_cF (by simp; omega) ?_
    refine lw_ld hi (lenMsg _) ?_
    have e1 : vPush x0 x1 = x0 ++ [x1] := by simp [vPush, hq, hmk]; omega
    have e2 : vPushC x0 x1 = 0 := by simp [vPushC, hq, hmk]; omega
    rw [e1, e2]
    have hst := fun K h => copy_step (β := AV) (n := n + 7) (X0 := []) (bytes := 56) (z := zzMsg) (K := K) (r := some (.tup [rowsC encMsg (x0 ++ [x1]), .sc (.int .i64 0)])) hO rfl (vcons (Vw_agg _ (flMsg x1)) vnil) (l12MsgF (n + 6) x1 hm) tyMsg (okWMsg 4 x1) (flMsg x1) (lenMsg x1) rfl (by omega) h
    simp only [List.append_nil] at hst
    refine hst _ fun x' H' hx' => ?_
    have := own2 (tyT := 42) (c := 0) rfl hx'
    rw [show rowsC encMsg (x0 ++ [x1]) = .ro (x0.length + 1) ((x0.map encMsg).flatten ++ encMsg x1) by
     show AV.ro _ _ = _
     simp]
    exact this
theorem implF_Push (n : Nat) (hn : 1048576 < n) (x0 : List MsgV) (x1 : MsgV) (k0 : x0.length ≤ 9223372036854775807 ∧ ∀ z ∈ x0, okMsg z) (k1 : okMsg x1) (b0 : wtL wtMsg x0 ≤ 1048576) (b1 : wtMsg x1 ≤ 1048576) : tree E0 (n + 9) 42 16 [rowsC encMsg x0, .agg (encMsg x1)] = some (.tup [rowsC encMsg (vPush x0 x1), .sc (.int .i64 (vPushC x0 x1))]) := by
 obtain ⟨hlen, htop⟩ := queue_hyp x0 b0
 have hsm := (smwS smMsg smwMsg x0 b0).2
 have hs : ∀ x ∈ x0, x.fBody.size ≤ 1048576 := fun x hx => (hsm x hx).1
 have hm : x1.fBody.size ≤ 1048576 := (smwMsg x1 b1).1
 have ht : x1.fTopic.size ≤ 1048576 := by unfold wtMsg at b1; omega
 rw [tree_def, f16_eq, f16]
 simp only [PR_box, PR_un, PR_guard, PR_load, PR_pick, PR_cond, PR_len, PR_bin, PR_fadr, PR_fill, PR_newSl, PR_app]
 refine w_box (flMsg _) fun i e hi => ?_
 rw [PR_call (vs := [rowsC encMsg x0]) rfl (vcons (Vw_ro _ _ _) vnil) (copyMsgsF (n + 5) (by omega) x0 hlen hs)]
 have hO := ownS_inst (H := [] ++ [⟨encMsg x1, true, true⟩]) lenMsg tyMsgS rfl (okWMsg 4) x0
 replace hi := blk_grow hi (instT ti0 E0.tp ([] ++ [⟨encMsg x1, true, true⟩] : Heap).length 37 (rowsC encMsg x0)).2
 generalize (instT ti0 E0.tp ([] ++ [⟨encMsg x1, true, true⟩] : Heap).length 37 (rowsC encMsg x0)).1 = y at hO ⊢
 generalize ([] ++ [⟨encMsg x1, true, true⟩] ++ (instT ti0 E0.tp ([] ++ [⟨encMsg x1, true, true⟩] : Heap).length 37 (rowsC encMsg x0)).2 : Heap) = G at hO hi ⊢
 refine lw_sc rfl (vcons (Vw_ro _ _ _) vnil) (implQueueF n hn _ x0 hlen htop) ?_
 refine w_not ?_
 cases hq : vQueueOk x0
 ·refine w_hF rfl ?_
  refine w_hF rfl ?_
  refine w_hF rfl ?_
  refine w_pT rfl ?_
  refine w_cT rfl ?_
  have e1 : vPush x0 x1 = x0 := by simp [vPush, hq]
  have e2 : vPushC x0 x1 = 2 := by simp [vPushC, hq]
  rw [e1, e2]
  exact own2 rfl hO
 ·refine w_hT rfl ?_
  refine lw_ld hi (lenMsg _) ?_
  refine w_hT rfl ?_
  refine lw_sc rfl (vcons (Vw_agg _ (flMsg _)) vnil) (implMsgF (n + 2) (by omega) _ x1 ht) ?_
  refine w_hT rfl ?_
  refine w_not ?_
  refine w_pF rfl ?_
  cases hmk : vMsgOk x1
  ·refine w_cT rfl ?_
   have e1 : vPush x0 x1 = x0 := by simp [vPush, hq, hmk]
   have e2 : vPushC x0 x1 = 2 := by simp [vPushC, hq, hmk]
   rw [e1, e2]
   exact own2 rfl hO
  ·refine w_cF rfl ?_
   refine w_len ?_
   refine w_bin (v := .sc (.bool (decide ((x0.length : Int) < 6)))) (fun k => rfl) ?_
   by_cases h6 : x0.length < 6
   ·refine w_cT (by simp; omega) ?_
    refine lw_ld hi (lenMsg _) ?_
    have e1 : vPush x0 x1 = x0 ++ [x1] := by simp [vPush, hq, hmk, h6]
    have e2 : vPushC x0 x1 = 0 := by simp [vPushC, hq, hmk, h6]
    rw [e1, e2]
    have hst := fun K h => copy_step (β := AV) (n := n + 8) (X0 := []) (bytes := 56) (z := zzMsg) (K := K) (r := some (.tup [rowsC encMsg (x0 ++ [x1]), .sc (.int .i64 0)])) hO rfl (vcons (Vw_agg _ (flMsg x1)) vnil) (copyMsgF (n + 6) (by omega) x1 hm) tyMsg (okWMsg 4 x1) (flMsg x1) (lenMsg x1) rfl (by omega) h
    simp only [List.append_nil] at hst
    refine hst _ fun x' H' hx' => ?_
    have := own2 (tyT := 42) (c := 0) rfl hx'
    rw [show rowsC encMsg (x0 ++ [x1]) = .ro (x0.length + 1) ((x0.map encMsg).flatten ++ encMsg x1) by
     show AV.ro _ _ = _
     simp]
    exact this
   ·refine w_cF (by simp; omega) ?_
    refine w_fadr ?_
    refine w_ld (c := .sc (.int .i64 x1.fQos)) hi (Nat.le_of_ble_eq_true rfl) rfl ?_
    refine w_bin (v := .sc (.bool (x1.fQos == 0))) (fun k => rfl) ?_
    have e1 : vPush x0 x1 = x0 := by simp [vPush, h6]
    rw [e1]
    cases hz : (x1.fQos == 0)
    ·refine w_cF rfl ?_
     have e2 : vPushC x0 x1 = 2 := by simp [vPushC, h6, hq, hmk, hz]
     rw [e2]
     exact own2 rfl hO
    ·refine w_cT rfl ?_
     have e2 : vPushC x0 x1 = 1 := by simp [vPushC, h6, hq, hmk, hz]
     rw [e2]
     exact own2 rfl hO
theorem msg_small (m : MsgV) (h : vMsgOk m = true) : wtMsg m ≤ 100 := by
 unfold vMsgOk vTopicOk vTextOk at h
 simp at h
 have e : wtMsg m = m.fTopic.size + (m.fBody.size + 0) := rfl
 omega
theorem queue_small : ∀ (q : List MsgV), q.all vMsgOk = true → wtL wtMsg q ≤ 101 * q.length
 | [], _ => Nat.zero_le _
 | m :: q, h => by
  rw [List.all_cons, Bool.and_eq_true] at h
  have h1 := msg_small m h.1
  have h2 := queue_small q h.2
  have e : wtL wtMsg (m :: q) = 1 + wtMsg m + wtL wtMsg q := rfl
  rw [List.length_cons]
  omega
theorem wt_push (q : List MsgV) (m : MsgV) : wtL wtMsg (q ++ [m]) = wtL wtMsg q + (1 + wtMsg m) := by
 induction q with
 | nil =>
  show 1 + wtMsg m + 0 = 0 + (1 + wtMsg m)
  omega
 | cons x q ih =>
  rw [List.cons_append]
  show 1 + wtMsg x + wtL wtMsg (q ++ [m]) = 1 + wtMsg x + wtL wtMsg q + (1 + wtMsg m)
  rw [ih]
  omega
theorem push_wt (x0 : List MsgV) (x1 : MsgV) (b0 : wtL wtMsg x0 ≤ 1048576) : wtL wtMsg (vPush x0 x1) ≤ wtL wtMsg x0 + 707 ∧ wtL wtMsg (vPush x0 x1) ≤ 1048576 := by
 unfold vPush
 split
 ·rename_i h
  obtain ⟨h, h6⟩ := h
  rw [Bool.and_eq_true] at h
  have h1 := msg_small x1 h.2
  have h3 : x0.all vMsgOk = true := by
   have := h.1
   unfold vQueueOk at this
   rw [Bool.and_eq_true] at this
   exact this.1
  have h2 := queue_small x0 h3
  rw [wt_push]
  omega
 ·omega
theorem resF_Push_0 (x0 : List MsgV) (x1 : MsgV) (b0 : wtL wtMsg x0 ≤ 1048576) (b1 : wtMsg x1 ≤ 1048576) : wtL wtMsg (vPush x0 x1) ≤ 1048576 ∧ ((vPush x0 x1).length ≤ 1048576 ∧ ∀ y ∈ vPush x0 x1, smMsg y) := ⟨(push_wt x0 x1 b0).2, smwS smMsg smwMsg _ (push_wt x0 x1 b0).2⟩
end Go.Proofs.YtejjggnchdldoaaDoor.Abs
set_option linter.unusedVariables false
set_option linter.unusedSimpArgs false
set_option maxRecDepth 100000
namespace Go.Proofs.YtejjggnchdldoaaDoor.Abs
open Go
def msg0 : MsgV := ⟨⟨#[]⟩, ⟨#[]⟩, 0, false⟩
def vPop1 (l : List MsgV) : MsgV := l.headD msg0
def vPop2 (l : List MsgV) : Bool := !l.isEmpty
theorem tup_ownQ {ty : Nat} {H : Heap} {ts : List Nat} {raw cells : List AV} {ids : List Nat} (hts : E0.tp ty = some ts) (h : ownL (ownT ti0 E0.tp H 7) ts raw = some (cells, ids)) (hn : ids.Nodup) : ownTree ti0 E0.tp ty H (.tup raw) = some (.tup cells) := by
 rw [ownTree, ownT_tup, hts, Option.bind_some, h, Option.bind_some, Option.bind_some, if_pos hn]
theorem own3 {H : Heap} {t0 t1 t2 : Nat} {x0 x1 : AV} {v : Value} {a b : AV × List Nat} (h0 : ownT ti0 E0.tp H 7 t0 x0 = some a) (h1 : ownT ti0 E0.tp H 7 t1 x1 = some b) : ownL (ownT ti0 E0.tp H 7) [t0, t1, t2] [x0, x1, .sc v] = some ([a.1, b.1, .sc v], a.2 ++ b.2) := by
 simp only [ownL, h0, h1, ownT_sc, Option.bind_some, List.append_nil]
theorem own_zz (H : Heap) : ownT ti0 E0.tp H 7 39 (.agg zzMsg) = some (.agg (encMsg msg0), []) := by
 obtain ⟨i, hi, hc⟩ := tyMsg
 rw [ownT_agg, hi, Option.bind_some, hc]
 rfl
theorem own_aggL {H : Heap} {raw cells : List AV} {ids : List Nat} (h : ownL (ownT ti0 E0.tp H 6) ctyMsg raw = some (cells, ids)) : ownT ti0 E0.tp H 7 39 (.agg raw) = some (.agg cells, ids) := by
 obtain ⟨i, hi, hc⟩ := tyMsg
 rw [ownT_agg, hi, Option.bind_some, hc, h]
 rfl
theorem implF_Pop (n : Nat) (hn : 1048576 < n) (x0 : List MsgV) (k0 : x0.length ≤ 9223372036854775807 ∧ ∀ z ∈ x0, okMsg z) (b0 : wtL wtMsg x0 ≤ 1048576) : tree E0 (n + 4) 47 23 [rowsC encMsg x0] = some (.tup [rowsC encMsg x0.tail, .agg (encMsg (vPop1 x0)), .sc (.bool (vPop2 x0))]) := by
 have hlen : x0.length ≤ 1048576 := by have := wtL_eq wtMsg x0; omega
 have hs : ∀ x ∈ x0, x.fBody.size ≤ 1048576 := by
  intro x hx
  have h1 := wtL_eq wtMsg x0
  have h2 := wtS_mem (wt := wtMsg) hx
  have h3 : wtMsg x = x.fTopic.size + (x.fBody.size + 0) := rfl
  omega
 rw [tree_def, f23_eq, f23]
 simp only [PR_new, PR_len, PR_bin, PR_cond, PR_fill, PR_store, PR_load, PR_slice, PR_iadr, pNew, List.length_nil, List.nil_append]
 rw [PR_call (vs := [rowsC encMsg x0]) rfl (vcons (Vw_ro _ _ _) vnil) (copyMsgsF n hn x0 hlen hs)]
 obtain ⟨i, j, h1, h2, h3, h4⟩ := tyMsgS
 have hi : instT ti0 E0.tp ([⟨zzMsg, true, true⟩] : Heap).length 37 (rowsC encMsg x0) = (.sl 1 0 x0.length 4, ⟨(instL ti0 E0.tp 2 (List.replicate x0.length ctyMsg).flatten (x0.map encMsg).flatten).1, true, true⟩ :: (instL ti0 E0.tp 2 (List.replicate x0.length ctyMsg).flatten (x0.map encMsg).flatten).2) := by
  show instT ti0 E0.tp 1 37 (.ro x0.length (x0.map encMsg).flatten) = _
  simp only [instT, h1, Option.bind_some, h2, Option.getD_some, h3, h4]
 have hz : ([⟨[.sc (.string ⟨#[]⟩), .nl, .sc (.int .i64 0), .sc (.bool false)], true, true⟩] : Heap) = [⟨zzMsg, true, true⟩] := rfl
 rw [hz, hi]
 simp only
 refine w_len ?_
 cases x0 with
 | nil =>
  refine w_bin (v := .sc (.bool true)) (fun k => rfl) ?_
  refine w_cT rfl ?_
  refine w_fill (cs := zzMsg) rfl ?_
  rw [st_at 4 0 0 _ ⟨zzMsg, true, true⟩ zzMsg _ _ rfl rfl rfl (by decide) rfl]
  refine w_ldA (ds := zzMsg) (cs := zzMsg) rfl (Nat.le_refl _) rfl ?_
  have o1 : ownT ti0 E0.tp (([⟨zzMsg, true, true⟩] ++ [⟨[], true, true⟩] : Heap).set 0 ⟨splice zzMsg 0 zzMsg, true, true⟩) 7 37 (.sl 1 0 0 4) = some (.ro 0 [], [1]) := by
   rw [ownT_sl]
   simp only [h1, h2, Option.bind_some, h3, if_true, h4]
   rfl
  exact tup_ownQ rfl (own3 o1 (own_zz _)) (by simp)
 | cons m l =>
  refine w_bin (v := .sc (.bool false)) (fun k => ?_) ?_
  ·show k (.sc (.bool (((m :: l).length : Int) == 0))) = _
   have e : (((m :: l).length : Int) == 0) = false := by
    rw [beq_eq_false_iff_ne]
    intro h
    have : (m :: l).length = l.length + 1 := rfl
    omega
   rw [e]
  refine w_cF rfl ?_
  have hsl : ∀ (id : Nat) (k : AV → Option AV), pSlice 4 (.sl id 0 (m :: l).length 4) (some (.sc (.int .i64 1))) none k = k (.sl id 4 l.length 4) := by
   intro id k
   simp only [pSlice, lenA, bound, asI, Option.bind_some, if_true]
   rw [if_pos (by simp; omega)]
   congr 2
   simp
  rw [hsl]
  rw [show ∀ k : AV → Option AV, pIadr 4 (.sl 1 0 (m :: l).length 4) (.sc (.int .i64 0)) k = k (.ptr 1 0) from fun k => iadr_sl 4 (m :: l).length 1 0 0 k (by simp)]
  have hap := instL_append (ti := ti0) (tp := E0.tp) ctyMsg (encMsg m) (List.replicate l.length ctyMsg).flatten (l.map encMsg).flatten 2 rfl
  rw [show (List.replicate (m :: l).length ctyMsg).flatten = ctyMsg ++ (List.replicate l.length ctyMsg).flatten by simp [List.replicate_succ], show ((m :: l).map encMsg).flatten = encMsg m ++ (l.map encMsg).flatten by simp, hap]
  simp only
  generalize hP : instL ti0 E0.tp 2 ctyMsg (encMsg m) = P
  generalize hQ : instL ti0 E0.tp (2 + P.2.length) (List.replicate l.length ctyMsg).flatten (l.map encMsg).flatten = Q
  have hPl : P.1.length = 4 := by rw [← hP, instL_len]; rfl
  have hQl : Q.1.length = l.length * 4 := by rw [← hQ, instL_len, rows_len lenMsg]
  have hPc : cellsA (.agg P.1) = some P.1 := by
   show (if _ then _ else none) = _
   rw [if_pos (by rw [← hP]; exact instL_leaf _ _ _ (flMsg m))]
  refine w_ldA (ds := P.1) (cs := P.1 ++ Q.1) rfl (by rw [List.length_append]; omega) (by rw [List.drop_zero, ← hPl, List.take_left' rfl]) ?_
  have hsp : splice zzMsg 0 P.1 = P.1 := by
   unfold splice
   rw [List.take_zero, List.nil_append, List.drop_of_length_le (by rw [hPl]; decide), List.append_nil]
  rw [st_at 4 0 0 _ ⟨zzMsg, true, true⟩ P.1 _ _ rfl hPc hPl (by decide) rfl]
  simp only [hsp]
  have hH : ([⟨zzMsg, true, true⟩] ++ ⟨P.1 ++ Q.1, true, true⟩ :: (P.2 ++ Q.2) : Heap).set 0 ⟨P.1, true, true⟩ = ⟨P.1, true, true⟩ :: ⟨P.1 ++ Q.1, true, true⟩ :: (P.2 ++ Q.2) := by simp
  rw [hH]
  refine w_ldA (ds := P.1) (cs := P.1) rfl (by omega) (by rw [List.drop_zero, ← hPl, List.take_length]) ?_
  have lP : Lies (⟨P.1, true, true⟩ :: ⟨P.1 ++ Q.1, true, true⟩ :: (P.2 ++ Q.2)) 2 P.2 := Lies_in [⟨P.1, true, true⟩, ⟨P.1 ++ Q.1, true, true⟩] P.2 Q.2
  have lQ : Lies (⟨P.1, true, true⟩ :: ⟨P.1 ++ Q.1, true, true⟩ :: (P.2 ++ Q.2)) (2 + P.2.length) Q.2 := by
   have := Lies_end (⟨P.1, true, true⟩ :: ⟨P.1 ++ Q.1, true, true⟩ :: P.2) Q.2
   rw [List.length_cons, List.length_cons, show P.2.length + 1 + 1 = 2 + P.2.length by omega] at this
   exact this
  have o2 : ownL (ownT ti0 E0.tp (⟨P.1, true, true⟩ :: ⟨P.1 ++ Q.1, true, true⟩ :: (P.2 ++ Q.2)) 6) ctyMsg P.1 = some (encMsg m, List.range' 2 P.2.length) := by
   have := own_instL (H := ⟨P.1, true, true⟩ :: ⟨P.1 ++ Q.1, true, true⟩ :: (P.2 ++ Q.2)) (fun ty t N h h' _ => own_inst 6 ty t N h h') ctyMsg (encMsg m) 2 (okWMsg 4 m) (by rw [hP]; exact lP) (instL_live _ _ _)
   rw [hP] at this
   exact this
  have o1' : ownL (ownT ti0 E0.tp (⟨P.1, true, true⟩ :: ⟨P.1 ++ Q.1, true, true⟩ :: (P.2 ++ Q.2)) 6) (List.replicate l.length ctyMsg).flatten Q.1 = some ((l.map encMsg).flatten, List.range' (2 + P.2.length) Q.2.length) := by
   have := own_instL (H := ⟨P.1, true, true⟩ :: ⟨P.1 ++ Q.1, true, true⟩ :: (P.2 ++ Q.2)) (fun ty t N h h' _ => own_inst 6 ty t N h h') (List.replicate l.length ctyMsg).flatten (l.map encMsg).flatten (2 + P.2.length) (okLW_rows l fun x _ => okWMsg 4 x) (by rw [hQ]; exact lQ) (instL_live _ _ _)
   rw [hQ] at this
   exact this
  have o1 : ownT ti0 E0.tp (⟨P.1, true, true⟩ :: ⟨P.1 ++ Q.1, true, true⟩ :: (P.2 ++ Q.2)) 7 37 (.sl 1 4 l.length 4) = some (rowsC encMsg l, 1 :: List.range' (2 + P.2.length) Q.2.length) := by
   rw [ownT_sl]
   have ha : isApp (⟨P.1, true, true⟩ :: ⟨P.1 ++ Q.1, true, true⟩ :: (P.2 ++ Q.2)) 1 = true := rfl
   have hr : rdCells (⟨P.1, true, true⟩ :: ⟨P.1 ++ Q.1, true, true⟩ :: (P.2 ++ Q.2)) 1 4 (l.length * 4) = some Q.1 := by
    have hg : (⟨P.1, true, true⟩ :: ⟨P.1 ++ Q.1, true, true⟩ :: (P.2 ++ Q.2) : Heap)[1]? = some ⟨P.1 ++ Q.1, true, true⟩ := rfl
    simp only [rdCells, hg, if_true]
    rw [if_pos (by rw [List.length_append]; omega), ← hPl, List.drop_append_of_le_length (Nat.le_refl _), List.drop_length, List.nil_append, hPl, ← hQl, List.take_length]
   simp only [h1, h2, Option.bind_some, h3, if_true, ha, hr, h4, o1']
  refine tup_ownQ rfl (own3 o1 (own_aggL o2)) ?_
  rw [List.cons_append, List.nodup_cons, List.nodup_append]
  refine ⟨?_, List.nodup_range', List.nodup_range', ?_⟩
  ·rw [List.mem_append, List.mem_range'_1, List.mem_range'_1]
   omega
  ·intro a ha b hb
   rw [List.mem_range'_1] at ha hb
   omega
theorem resF_Pop_0 (x0 : List MsgV) (b0 : wtL wtMsg x0 ≤ 1048576) : wtL wtMsg x0.tail ≤ 1048576 ∧ (x0.tail.length ≤ 1048576 ∧ ∀ y ∈ x0.tail, smMsg y) := by
 have h : wtL wtMsg x0.tail ≤ 1048576 := by
  cases x0 with
  | nil => exact b0
  | cons m l =>
   have : wtL wtMsg (m :: l) = 1 + wtMsg m + wtL wtMsg l := rfl
   show wtL wtMsg l ≤ _
   omega
 exact ⟨h, smwS smMsg smwMsg _ h⟩
theorem resF_Pop_1 (x0 : List MsgV) (b0 : wtL wtMsg x0 ≤ 1048576) : wtMsg (vPop1 x0) ≤ 1048576 ∧ smMsg (vPop1 x0) := by
 have h : wtMsg (vPop1 x0) ≤ 1048576 := by
  cases x0 with
  | nil => decide
  | cons m l =>
   have : wtL wtMsg (m :: l) = 1 + wtMsg m + wtL wtMsg l := rfl
   show wtMsg m ≤ _
   omega
 exact ⟨h, smwMsg _ h⟩
end Go.Proofs.YtejjggnchdldoaaDoor.Abs
set_option linter.unusedVariables false
set_option linter.unusedSimpArgs false
set_option maxRecDepth 100000
set_option maxHeartbeats 1600000
namespace Go.Proofs.YtejjggnchdldoaaDoor.Abs
open Go
theorem bigF (n ty : Nat) (s : ByteArray) : tree E0 (n + 1) ty 14 [bytesC s] = some (.sc (.bool (decide ((1048576 : Int) < (s.size : Nat))))) := by
 rw [tree_def, f14_eq, f14]
 simp only [PR_len, PR_bin]
 refine w_len ?_
 rfl
theorem same_refl (m : MsgV) : vSameMsg m m = true := by simp [vSameMsg]
theorem all2_refl : ∀ (l : List MsgV), all2 vSameMsg l l = true
 | [] => rfl
 | x :: l => by simp [all2, same_refl, all2_refl l]
theorem ends_drop (l : List MsgV) (k : Nat) (h : k ≤ l.length) : vEnds l (l.drop k) = true := by
 unfold vEnds
 rw [if_pos (by simp), List.length_drop, show l.length - (l.length - k) = k by omega]
 exact all2_refl _
theorem ends_self (l : List MsgV) : vEnds l l = true := ends_drop l 0 (Nat.zero_le _)
theorem push_no {q : List MsgV} {m : MsgV} (h : vPushC q m ≠ 0) : vPush q m = q := by
 unfold vPush
 unfold vPushC at h
 split
 ·rename_i hc
  rw [if_pos hc.1, if_pos hc.2] at h
  exact absurd rfl h
 ·rfl
theorem push_len (q : List MsgV) (m : MsgV) : (vPush q m).length ≤ q.length + 1 := by
 unfold vPush
 split
 ·simp
 ·omega
theorem push_yes {q : List MsgV} {m : MsgV} (h : vPushC q m = 0) : vPush q m = q ++ [m] ∧ vQueueOk (q ++ [m]) = true := by
 unfold vPush
 unfold vPushC at h
 split at h
 ·rename_i hc
  split at h
  ·rename_i hl
   refine ⟨if_pos ⟨hc, hl⟩, ?_⟩
   simp only [vQueueOk, Bool.and_eq_true, List.all_eq_true, decide_eq_true_eq] at hc ⊢
   refine ⟨fun y hy => ?_, by simp; omega⟩
   rcases List.mem_append.1 hy with hy | hy
   ·exact hc.1.1 y hy
   ·rw [List.mem_singleton.1 hy]
    exact hc.2
  ·split at h <;> omega
 ·omega
section
variable {q y : List MsgV} {m : MsgV} {z : Int}
theorem fq_pop2 (hy : y = (q ++ [m]).drop z.toNat) (h0 : 0 ≤ z) (h1 : z ≤ (q.length : Nat)) : vPop2 y = true := by
 subst hy
 unfold vPop2
 cases h : (q ++ [m]).drop z.toNat with
 | nil =>
  have := congrArg List.length h
  simp at this
  omega
 | cons a l => rfl
theorem fq_head {e : MsgV} (hy : y = (q ++ [m]).drop z.toNat) (he : q[z.toNat]? = some e) : vPop1 y = e := by
 have hlt := (List.getElem?_eq_some_iff.1 he).1
 have h2 : (q ++ [m])[z.toNat]? = some e := by rw [List.getElem?_append_left hlt, he]
 obtain ⟨h3, h4⟩ := List.getElem?_eq_some_iff.1 h2
 subst hy
 rw [List.drop_eq_getElem_cons h3, h4]
 rfl
theorem fq_same {e : MsgV} (hy : y = (q ++ [m]).drop z.toNat) (he : q[z.toNat]? = some e) : vSameMsg (vPop1 y) e = true := by
 rw [fq_head hy he]
 exact same_refl e
theorem fq_tail (hy : y = (q ++ [m]).drop z.toNat) (h0 : 0 ≤ z) : y.tail = (q ++ [m]).drop (z + 1).toNat := by
 subst hy
 rw [List.tail_drop, show (z + 1).toNat = z.toNat + 1 by omega]
theorem fq_ends (hy : y = (q ++ [m]).drop z.toNat) (h0 : 0 ≤ z) (h1 : z ≤ (q.length : Nat)) : vEnds (q ++ [m]) y.tail = true := by
 rw [fq_tail hy h0]
 exact ends_drop _ _ (by simp; omega)
theorem fq_ends2 {x : List MsgV} (hx : x = q ++ [m]) (hy : y = (q ++ [m]).drop z.toNat) (h0 : 0 ≤ z) (h1 : z ≤ (q.length : Nat)) : vEnds x y.tail = true := by
 rw [hx]
 exact fq_ends hy h0 h1
theorem fq_last (hy : y = (q ++ [m]).drop z.toNat) (h0 : 0 ≤ z) (h1 : z = (q.length : Nat)) : y = [m] := by
 subst hy
 rw [h1]
 simp
theorem fq_wt (hy : y = (q ++ [m]).drop z.toNat) (hw : wtL wtMsg (q ++ [m]) ≤ 1048576) (ho : ∀ x ∈ q ++ [m], okMsg x) : wtL wtMsg y ≤ 1048576 ∧ y.length ≤ 1048576 ∧ ∀ x ∈ y, okMsg x := by
 have key : ∀ (l : List MsgV) (k : Nat), wtL wtMsg (l.drop k) ≤ wtL wtMsg l := by
  intro l
  induction l with
  | nil => intro k; simp
  | cons x l ih =>
   intro k
   cases k with
   | zero => exact Nat.le_refl _
   | succ k =>
    have := ih k
    show wtL wtMsg (l.drop k) ≤ 1 + wtMsg x + wtL wtMsg l
    omega
 subst hy
 have h1 := key (q ++ [m]) z.toNat
 have h2 := wtL_ge wtMsg ((q ++ [m]).drop z.toNat)
 exact ⟨by omega, by omega, fun x hx => ho x (List.drop_subset _ _ hx)⟩
theorem fq_lastP (hy : y = (q ++ [m]).drop (0 : Int).toNat) (h : decide ((0 : Int) < ((q.length : Nat) : Int)) = false) : y = [m] := fq_last hy (Int.le_refl 0) (by have := of_decide_eq_false h; omega)
theorem tl_ok (h : ∀ x ∈ y, okMsg x) : ∀ x ∈ y.tail, okMsg x := fun x hx => h x (List.mem_of_mem_tail hx)
theorem tl_wt : ∀ (y : List MsgV), wtL wtMsg y.tail ≤ wtL wtMsg y ∧ y.tail.length ≤ y.length
 | [] => ⟨Nat.le_refl _, Nat.le_refl _⟩
 | x :: y => by
  show wtL wtMsg y ≤ 1 + wtMsg x + wtL wtMsg y ∧ _
  constructor
  ·omega
  ·simp
theorem ends_nil (l p : List MsgV) (a b : Int) (h : a = ((q.length : Nat) : Int)) : vEnds l ((q.drop a.toNat).take b.toNat) = true := by
 rw [h]
 simp [vEnds, all2]
end
theorem sameMsgsF (n : Nat) (hn : 1048576 < n) (a : List MsgV) (b : List MsgV) (ha : a.length ≤ 1048576) (hb : b.length ≤ 1048576) : tree E0 (n + 8) 4 22 [rowsC encMsg a, rowsC encMsg b] = some (.sc (.bool (decide (a.length = b.length) && vEnds a b))) := by
 rw [tree_def, f22_eq, f22]
 refine tree_gd (G := (· = some (.sc (.bool (decide (a.length = b.length) && vEnds a b))))) ?_
 try simp only [PR_box, PR_new, PR_newSl, PR_fadr, PR_load, PR_store, PR_bin, PR_binB, PR_binA, PR_un, PR_cond, PR_guard, PR_pick, PR_len, PR_lenS, PR_iadr, PR_idx, PR_slice, PR_sliceS, PR_fill, PR_make, PR_app, PR_appS, PR_cvI, PR_cvSS, PR_cvBS, PR_cvSB, PR_extr, PR_nil, PR_clear, PR_fld, PR_apart, PR_same]
 have s0 : Sep [] [] := sep_nil
 refine g_len ?_
 refine g_len ?_
 refine g_eql ?_
 refine w_split ((decide (((a.length : Nat) : Int) = ((b.length : Nat) : Int)))) (fun h1 => ?_) (fun h1 => ?_)
 ·refine g_gY h1 ?_
  refine g_gY h1 ?_
  refine g_gY h1 ?_
  refine g_callS (v := (.bool (vEnds a b))) s0 rfl (.cons .ro (.cons .ro .nil)) (implEndsF (n + 1) (by omega) _ a b (by first | omega | (simp; done) | (simp; omega) | (have := (tl_wt (vPush r1 r2)).2; omega) | (have := (tl_wt a3).2; omega)) (by first | omega | (simp; done) | (simp; omega) | (have := (tl_wt (vPush r1 r2)).2; omega) | (have := (tl_wt a3).2; omega))) ?_
  refine g_pT h1 ?_
  refine g_ret rfl ?_
  first | rfl | (simp_all; done) | (simp_all; omega)
 ·refine g_gN h1 ?_
  refine g_gN h1 ?_
  refine g_gN h1 ?_
  refine g_pF h1 ?_
  refine g_ret rfl ?_
  first | rfl | (simp_all; done) | (simp_all; omega)
theorem drawPushK (n : Nat) (hn : 1048576 < n) (code : ByteArray) (hcode : code.size ≤ 1048576)   {β : Type} {G : Option β → Prop} {KH : AV → Heap → Option β} {H : Heap} {L : List Ck} (s0 : Sep H (L)) (hk : ∀ (r0 : List MsgV) (r0x : AV) (r1 : MsgV) (r1x1 : AV) (H' : Heap), (isLeaf r0x = true) → ((∀ y ∈ r0, okMsg y) ∧ wtL wtMsg r0 ≤ 183) → (isLeaf r1x1 = true) → (okMsg r1 ∧ wtMsg r1 ≤ 102) → Sep H' (.own r0x 37 (rowsC encMsg r0) :: .own r1x1 23 (bytesC r1.fBody) :: L) → Gd G (KH (.tup [r0x, .agg [.sc (.string r1.fTopic), r1x1, .sc (.int .i64 r1.fQos), .sc (.bool r1.fRetain)]]) H')) : Gd G (evalFn E0 (n + 11) β 15 [bytesC code] H fun x H => KH x H) := by
 rw [f15_eq, f15]
 try simp only [PR_box, PR_new, PR_newSl, PR_fadr, PR_load, PR_store, PR_bin, PR_binB, PR_binA, PR_un, PR_cond, PR_guard, PR_pick, PR_len, PR_lenS, PR_iadr, PR_idx, PR_slice, PR_sliceS, PR_fill, PR_make, PR_app, PR_appS, PR_cvI, PR_cvSS, PR_cvBS, PR_cvSB, PR_extr, PR_nil, PR_clear, PR_fld, PR_apart, PR_same]
 refine g_new s0 fun i1 H s2 => ?_
 refine newK hcode (by omega) s2 fun c3 hq4 H sq4 => ?_
 refine g_hm rfl rfl ?_
 refine l12LooseK _ (by omega) code hcode c3 0 hq4   (sq4.pick (.here)) fun r5 r5x iq6 hq6 H lr5x hr5 sq6 => ?_
 obtain ⟨or5, wr5⟩ := hr5
 have gr5 := wtL_ge wtMsg r5
 refine g_hm rfl rfl ?_
 refine l12AnyK _ (by omega) code hcode c3 iq6 hq6   (sq6.pick (.there (.here))) fun r7 r7x1 iq8 hq8 H lr7x1 hr7 sq8 => ?_
 obtain ⟨or7, wr7⟩ := hr7
 have ur7 := or7
 have vr7 := wr7
 simp only [okMsg, wtMsg, okS, okI, and_true, true_and] at ur7 vr7
 refine g_st (cs' := [.sc (.string r7.fTopic), r7x1, .sc (.int .i64 r7.fQos), .sc (.bool r7.fRetain)]) sq8 (.there (.there (.there (.here)))) (cells_agg (lf_c rfl (lf_c lr7x1 (lf_c rfl (lf_c rfl rfl))))) rfl (Nat.le_of_ble_eq_true rfl) rfl fun H s9 => ?_
 refine g_ldW s9 (.here) rfl ?_
 have e10 : (∀ y ∈ r5, okMsg y) ∧ wtL wtMsg r5 ≤ 183 := by
  first | exact ⟨by assumption, by omega⟩ | exact ⟨by simp, by simp [wtL_nil]⟩ | exact ⟨all_app1 (by assumption) (by assumption), by rw [wtL_app1]; omega⟩
 have e11 : okMsg (r7 : MsgV) ∧ wtMsg (r7 : MsgV) ≤ 102 := by
  simp only [okMsg, wtMsg, okS, okI, and_true, true_and, empty_size]; first | omega | ((repeat' apply And.intro) <;> first | trivial | omega | assumption | (intro y hy; cases hy; done))
 exact hk r5 r5x (r7 : MsgV) r7x1 _ lr5x e10 lr7x1 e11 (s9.sel (.cons (.there (.there (.there (.here)))) (.cons (.there (.here)) (.skip (.skip .rest)))))
theorem law_FnQueues (n : Nat) (hn : 1048576 < n) (code : ByteArray) (k0 : okS code) : tree E0 (n + 30) 4 4 [bytesC code] = some (.sc (.bool true)) := by
 rw [tree_def, f4_eq, f4]
 refine tree_gd (G := (· = some (.sc (.bool true)))) ?_
 simp only [PR_box, PR_new, PR_newSl, PR_fadr, PR_load, PR_store, PR_bin, PR_binB, PR_binA, PR_un, PR_cond, PR_guard, PR_pick, PR_len, PR_lenS, PR_iadr, PR_idx, PR_slice, PR_sliceS, PR_fill, PR_make, PR_app, PR_appS, PR_cvI, PR_cvSS, PR_cvBS, PR_cvSB, PR_extr, PR_nil, PR_clear, PR_fld, PR_apart, PR_same]
 have s0 : Sep [] [] := sep_nil
 refine g_callS (v := .bool (decide ((1048576 : Int) < (code.size : Nat)))) s0 rfl (.cons .ro .nil) (bigF (n + 28) _ code) ?_
 by_cases hcode : code.size ≤ 1048576
 ·refine g_cF (decide_eq_false (by omega)) ?_
  refine g_hm rfl rfl ?_
  refine drawPushK _ (by omega) code hcode   s0 fun r1 r1x r2 r2x1 H lr1x hr1 lr2x1 hr2 s3 => ?_
  obtain ⟨or1, wr1⟩ := hr1
  have gr1 := wtL_ge wtMsg r1
  obtain ⟨or2, wr2⟩ := hr2
  have ur2 := or2
  have vr2 := wr2
  simp only [okMsg, wtMsg, okS, okI, and_true, true_and] at ur2 vr2
  refine g_extr (v := r1x) rfl ?_
  refine g_extr (v := .agg [.sc (.string r2.fTopic), r2x1, .sc (.int .i64 r2.fQos), .sc (.bool r2.fRetain)]) rfl ?_
  refine g_new s3 fun i4 H s5 => ?_
  refine g_st (cs' := [.sc (.string r2.fTopic), r2x1, .sc (.int .i64 r2.fQos), .sc (.bool r2.fRetain)]) s5 (.here) (cells_agg (lf_c rfl (lf_c lr2x1 (lf_c rfl (lf_c rfl rfl))))) rfl (Nat.le_of_ble_eq_true rfl) rfl fun H s6 => ?_
  refine g_ldW s6 (.here) rfl ?_
  have c7 := implF_Push (n + 20) (by omega) r1 r2 ⟨by omega, by assumption⟩ (by assumption) (by omega) (by omega)
  refine g_callT s6 rfl (.cons (.own (by decide) (.there (.here))) (.agg (.cons .sc (.cons (.own (by decide) (.there (.there (.here)))) (.cons .sc (.cons .sc .nil)))) .nil)) (c7) rfl (ins_ro (ty := 37) rfl (okRMsg (vPush r1 r2)) (ins_sc ins_nil)) ?_
  rintro _ _ H ⟨x8, _, _, lx8, rfl, rfl, ⟨_, rfl, ⟨rfl, rfl⟩⟩⟩ s9
  simp only [List.nil_append, List.cons_append] at s9
  refine g_extr (v := x8) rfl ?_
  refine g_extr (v := .sc (.int .i64 (vPushC r1 r2))) rfl ?_
  refine g_ldW s9 (.there (.here)) rfl ?_
  have c10 := specF_Push (n + 21) (by omega) r1 r2 ⟨by omega, by assumption⟩ (by assumption) (by omega) (by omega)
  refine g_callT s9 rfl (.cons (.own (by decide) (.there (.there (.here)))) (.agg (.cons .sc (.cons (.own (by decide) (.there (.there (.there (.here))))) (.cons .sc (.cons .sc .nil)))) .nil)) (c10) rfl (ins_ro (ty := 37) rfl (okRMsg (vPush r1 r2)) (ins_sc ins_nil)) ?_
  rintro _ _ H ⟨x11, _, _, lx11, rfl, rfl, ⟨_, rfl, ⟨rfl, rfl⟩⟩⟩ s12
  simp only [List.nil_append, List.cons_append] at s12
  refine g_extr (v := x11) rfl ?_
  refine g_extr (v := .sc (.int .i64 (vPushC r1 r2))) rfl ?_
  refine g_neq ?_
  refine g_gY (nF (by simp)) ?_
  refine g_gY (nF (by simp)) ?_
  refine g_gY (nF (by simp)) ?_
  refine g_callS (v := (.bool (vQueueOk r1))) s12 rfl (.cons (.own (by decide) (.there (.there (.there (.here))))) .nil) (implF_QueueOk (n + 21) (by omega) r1 ⟨by omega, by assumption⟩ (by omega)) ?_
  refine g_gY (nF (by simp)) ?_
  refine g_callS (v := (.bool (vQueueOk r1))) s12 rfl (.cons (.own (by decide) (.there (.there (.there (.here))))) .nil) (specF_QueueOk (n + 21) (by omega) r1 ⟨by omega, by assumption⟩ (by omega)) ?_
  refine g_gY (nF (by simp)) ?_
  refine g_binB (v := .sc (.bool (!((vQueueOk r1) == (vQueueOk r1))))) (fun k => rfl) ?_
  refine g_pF (nF (by simp)) ?_
  refine g_gY (nF (by simp)) ?_
  refine g_ldW s12 (.there (.there (.here))) rfl ?_
  refine g_gY (nF (by simp)) ?_
  refine g_ldW s12 (.there (.there (.here))) rfl ?_
  refine g_gY (nF (by simp)) ?_
  refine g_callS (v := (.bool (vMsgOk r2))) s12 rfl (.agg (.cons .sc (.cons (.own (by decide) (.there (.there (.there (.there (.here)))))) (.cons .sc (.cons .sc .nil)))) .nil) (implMsgF (n + 23) (by omega) _ r2 (by omega)) ?_
  refine g_gY (nF (by simp)) ?_
  refine g_callS (v := (.bool (vMsgOk r2))) s12 rfl (.agg (.cons .sc (.cons (.own (by decide) (.there (.there (.there (.there (.here)))))) (.cons .sc (.cons .sc .nil)))) .nil) (specMsgF (n + 23) (by omega) _ r2 (by omega)) ?_
  refine g_gY (nF (by simp)) ?_
  refine g_binB (v := .sc (.bool (!((vMsgOk r2) == (vMsgOk r2))))) (fun k => rfl) ?_
  refine g_pF (nF (by simp)) ?_
  refine g_cF (nF (by simp)) ?_
  refine g_neq ?_
  refine w_split ((decide ((vPushC r1 r2) = 0))) (fun h13 => ?_) (fun h13 => ?_)
  ·refine g_cF (nF h13) ?_
   have hpv := push_yes (q := r1) (m := r2) (by simpa using h13)
   have hqy := hpv.2
   rw [← hpv.1] at hqy
   have hinv0 : vPush r1 r2 = (r1 ++ [r2]).drop (0 : Int).toNat := by rw [hpv.1]; rfl
   have hwx : wtL wtMsg (r1 ++ [r2]) ≤ 1048576 := by rw [wtL_app1]; omega
   have hox : ∀ x ∈ r1 ++ [r2], okMsg x := all_app1 (by assumption) (by assumption)
   obtain ⟨hxa, hxb, hxc⟩ := fq_wt hinv0 hwx hox
   have lp14 : ∀ (j m : Nat) (z : Int) (a3 : List MsgV) (a3x : AV) (i : Nat) (h : Int) (H : Heap), j < m → 0 ≤ z ∧ z + ((j : Nat) : Int) = max (((r1.length : Nat) : Int)) 0 → isLeaf a3x = true → (a3 = (r1 ++ [r2]).drop (z : Int).toNat) → Sep H (.own a3x 37 (rowsC encMsg a3) :: .own x11 37 (rowsC encMsg (vPush r1 r2)) :: .own x8 37 (rowsC encMsg (vPush r1 r2)) :: .blk i4 [.sc (.string r2.fTopic), r2x1, .sc (.int .i64 r2.fQos), .sc (.bool r2.fRetain)] true :: .own r1x 37 (rowsC encMsg r1) :: .own r2x1 23 (bytesC r2.fBody) :: []) → Gd (· = some (.sc (.bool true))) (f4_l0 (PR ((n + 29)) AV) ((n + 29)) (fun x H => ownTree ti0 E0.tp 4 H x) m (r1x) (.ptr i4 0) (x8) (a3x) (.sc (.int .i64 z)) H) := by
    intro j
    induction j with
    | zero =>
     intro m0 z a3 a3x i h H hm hz la3x hinv s0
     obtain ⟨m, rfl⟩ : ∃ m, m0 = m + 1 := ⟨m0 - 1, by omega⟩
     have ga3 := wtL_ge wtMsg a3
     have hz0 : 0 ≤ z := hz.1
     have hzl : z ≤ (r1.length : Nat) := by omega
     obtain ⟨hya, hyb, hyc⟩ := fq_wt hinv hwx hox
     have hl3 := fq_last hinv hz0 (by omega)
     rw [f4_l0]
     try simp only [PR_box, PR_new, PR_newSl, PR_fadr, PR_load, PR_store, PR_bin, PR_binB, PR_binA, PR_un, PR_cond, PR_guard, PR_pick, PR_len, PR_lenS, PR_iadr, PR_idx, PR_slice, PR_sliceS, PR_fill, PR_make, PR_app, PR_appS, PR_cvI, PR_cvSS, PR_cvBS, PR_cvSB, PR_extr, PR_nil, PR_clear, PR_fld, PR_apart, PR_same]
     refine g_lenO s0 (.there (.there (.there (.there (.here))))) ?_
     refine g_lss ?_
     refine g_cF (decide_eq_false (by omega)) ?_
     have c15 := implF_Pop (n + 25) (by omega) a3 (by first | exact ⟨by omega, by assumption⟩ | exact ⟨by simp, by simp⟩) (by first | omega | simp [wtL_nil])
     refine g_callT s0 rfl (.cons (.own (by decide) (.here)) .nil) (c15) rfl (ins_ro (ty := 37) rfl (okRMsg a3.tail) (ins_agg ⟨_, rfl, rfl⟩ (insMsg (vPop1 a3)) (ins_sc ins_nil))) ?_
     rintro _ _ H ⟨x17, _, _, lx17, rfl, rfl, ⟨_, _, _, _, rfl, rfl, ⟨x16, lx16, rfl, rfl⟩, ⟨_, rfl, ⟨rfl, rfl⟩⟩⟩⟩ s18
     simp only [List.nil_append, List.cons_append] at s18
     refine g_extr (v := x17) rfl ?_
     refine g_extr (v := .agg [.sc (.string ((vPop1 a3).fTopic)), x16, .sc (.int .i64 ((vPop1 a3).fQos)), .sc (.bool (vPop1 a3).fRetain)]) rfl ?_
     refine g_extr (v := .sc (.bool (vPop2 a3))) rfl ?_
     refine g_new s18 fun i19 H s20 => ?_
     refine g_st (cs' := [.sc (.string ((vPop1 a3).fTopic)), x16, .sc (.int .i64 ((vPop1 a3).fQos)), .sc (.bool (vPop1 a3).fRetain)]) s20 (.here) (cells_agg (lf_c rfl (lf_c lx16 (lf_c rfl (lf_c rfl rfl))))) rfl (Nat.le_of_ble_eq_true rfl) rfl fun H s21 => ?_
     have c22 := implF_Pop (n + 25) (by omega) a3.tail ⟨by have := (tl_wt a3).2; omega, tl_ok (by assumption)⟩ (by have := (tl_wt a3).1; omega)
     refine g_callT s21 rfl (.cons (.own (by decide) (.there (.there (.here)))) .nil) (c22) rfl (ins_ro (ty := 37) rfl (okRMsg a3.tail.tail) (ins_agg ⟨_, rfl, rfl⟩ (insMsg (vPop1 a3.tail)) (ins_sc ins_nil))) ?_
     rintro _ _ H ⟨x24, _, _, lx24, rfl, rfl, ⟨_, _, _, _, rfl, rfl, ⟨x23, lx23, rfl, rfl⟩, ⟨_, rfl, ⟨rfl, rfl⟩⟩⟩⟩ s25
     simp only [List.nil_append, List.cons_append] at s25
     refine g_extr (v := x24) rfl ?_
     refine g_extr (v := .agg [.sc (.string ((vPop1 a3.tail).fTopic)), x23, .sc (.int .i64 ((vPop1 a3.tail).fQos)), .sc (.bool (vPop1 a3.tail).fRetain)]) rfl ?_
     refine g_extr (v := .sc (.bool (vPop2 a3.tail))) rfl ?_
     refine g_new s25 fun i26 H s27 => ?_
     refine g_st (cs' := [.sc (.string ((vPop1 a3.tail).fTopic)), x23, .sc (.int .i64 ((vPop1 a3.tail).fQos)), .sc (.bool (vPop1 a3.tail).fRetain)]) s27 (.here) (cells_agg (lf_c rfl (lf_c lx23 (lf_c rfl (lf_c rfl rfl))))) rfl (Nat.le_of_ble_eq_true rfl) rfl fun H s28 => ?_
     refine g_callS (v := (.bool (vQueueOk (vPush r1 r2)))) s28 rfl (.cons (.own (by decide) (.there (.there (.there (.there (.there (.there (.there (.there (.here)))))))))) .nil) (implF_QueueOk (n + 21) (by omega) (vPush r1 r2) ⟨by omega, by assumption⟩ (by omega)) ?_
     refine g_gY hqy ?_
     refine g_pT hqy ?_
     refine g_gY (fq_pop2 hinv hz0 (by omega)) ?_
     refine g_ldW s28 (.there (.there (.there (.here)))) rfl ?_
     refine g_gY (fq_pop2 hinv hz0 (by omega)) ?_
     refine g_ldW s28 (.there (.there (.there (.there (.there (.there (.there (.there (.there (.here)))))))))) rfl ?_
     refine g_gY (fq_pop2 hinv hz0 (by omega)) ?_
     refine g_callS (v := (.bool (vSameMsg (vPop1 a3) r2))) s28 rfl (.agg (.cons .sc (.cons (.own (by decide) (.there (.there (.there (.there (.here)))))) (.cons .sc (.cons .sc .nil)))) (.agg (.cons .sc (.cons (.own (by decide) (.there (.there (.there (.there (.there (.there (.there (.there (.there (.there (.there (.here))))))))))))) (.cons .sc (.cons .sc .nil)))) .nil)) (implSameMsgF (n + 27) _ (vPop1 a3) r2) ?_
     refine g_pT (fq_pop2 hinv hz0 (by omega)) ?_
     refine g_gY (by rw [hl3]; exact same_refl _) ?_
     refine g_gY (by rw [hl3]; exact same_refl _) ?_
     refine g_lenO s28 (.there (.there (.there (.there (.there (.here)))))) ?_
     refine g_gY (by rw [hl3]; exact same_refl _) ?_
     refine g_eql ?_
     refine g_pT (by rw [hl3]; exact same_refl _) ?_
     refine g_gY (by rw [hl3]; rfl) ?_
     refine g_gY (by rw [hl3]; rfl) ?_
     refine g_not ?_
     refine g_pT (by rw [hl3]; rfl) ?_
     refine g_gY (nT (by rw [hl3]; rfl)) ?_
     refine g_gY (nT (by rw [hl3]; rfl)) ?_
     refine g_gY (nT (by rw [hl3]; rfl)) ?_
     refine g_gY (nT (by rw [hl3]; rfl)) ?_
     refine g_lenO s28 (.there (.there (.there (.there (.there (.there (.there (.there (.there (.there (.here))))))))))) ?_
     refine g_gY (nT (by rw [hl3]; rfl)) ?_
     have s29 := s28.toShs (.there (.there (.there (.there (.there (.there (.there (.there (.there (.there (.here)))))))))))
     refine g_sliceR (a := ((r1.length : Nat) : Int)) (b := ((r1.length : Nat) : Int)) s29 ⟨_, _, rfl, rfl, rfl, rfl⟩ (.here) rfl rfl (by omega) (by first | omega | (simp; omega)) (by first | omega | (simp; omega)) lenMsg rfl fun y30 ly30 s31 => ?_
     refine g_gY (nT (by rw [hl3]; rfl)) ?_
     refine g_callS (v := (.bool (vEnds (vPush r1 r2) ((r1.drop ((r1.length : Nat) : Int).toNat).take (((r1.length : Nat) : Int).toNat - ((r1.length : Nat) : Int).toNat))))) s31 rfl (.cons (.own (by decide) (.there (.there (.there (.there (.there (.there (.there (.there (.there (.here))))))))))) (.cons (.shsE (k := 0) (by decide) (.here) rfl) .nil)) (implEndsF (n + 23) (by omega) _ (vPush r1 r2) ((r1.drop ((r1.length : Nat) : Int).toNat).take (((r1.length : Nat) : Int).toNat - ((r1.length : Nat) : Int).toNat)) (by first | omega | (simp; done) | (simp; omega) | (have := (tl_wt (vPush r1 r2)).2; omega) | (have := (tl_wt a3).2; omega)) (by first | omega | (simp; done) | (simp; omega) | (have := (tl_wt (vPush r1 r2)).2; omega) | (have := (tl_wt a3).2; omega))) ?_
     refine g_pT (nT (by rw [hl3]; rfl)) ?_
     refine g_gY (by simp [vEnds, all2]) ?_
     refine g_ldW s31 (.there (.there (.there (.there (.there (.there (.there (.there (.there (.there (.here))))))))))) rfl ?_
     refine g_gY (by simp [vEnds, all2]) ?_
     refine g_ldW s31 (.there (.there (.there (.there (.there (.there (.there (.there (.there (.there (.here))))))))))) rfl ?_
     refine g_gY (by simp [vEnds, all2]) ?_
     refine g_callS (v := (.bool (vSameMsg r2 r2))) s31 rfl (.agg (.cons .sc (.cons (.own (by decide) (.there (.there (.there (.there (.there (.there (.there (.there (.there (.there (.there (.here))))))))))))) (.cons .sc (.cons .sc .nil)))) (.agg (.cons .sc (.cons (.own (by decide) (.there (.there (.there (.there (.there (.there (.there (.there (.there (.there (.there (.here))))))))))))) (.cons .sc (.cons .sc .nil)))) .nil)) (implSameMsgF (n + 27) _ r2 r2) ?_
     refine g_pT (by simp [vEnds, all2]) ?_
     have s32 := s31.ofShs (.here)
     refine g_ret rfl ?_
     exact congrArg (fun b => some (AV.sc (.bool b))) (same_refl _)
    | succ j ih =>
     intro m0 z a3 a3x i h H hm hz la3x hinv s0
     obtain ⟨m, rfl⟩ : ∃ m, m0 = m + 1 := ⟨m0 - 1, by omega⟩
     have ga3 := wtL_ge wtMsg a3
     have hz0 : 0 ≤ z := hz.1
     have hzl : z ≤ (r1.length : Nat) := by omega
     obtain ⟨hya, hyb, hyc⟩ := fq_wt hinv hwx hox
     rw [f4_l0]
     try simp only [PR_box, PR_new, PR_newSl, PR_fadr, PR_load, PR_store, PR_bin, PR_binB, PR_binA, PR_un, PR_cond, PR_guard, PR_pick, PR_len, PR_lenS, PR_iadr, PR_idx, PR_slice, PR_sliceS, PR_fill, PR_make, PR_app, PR_appS, PR_cvI, PR_cvSS, PR_cvBS, PR_cvSB, PR_extr, PR_nil, PR_clear, PR_fld, PR_apart, PR_same]
     refine g_lenO s0 (.there (.there (.there (.there (.here))))) ?_
     refine g_lss ?_
     refine g_cT (decide_eq_true (by omega)) ?_
     have c33 := implF_Pop (n + 25) (by omega) a3 (by first | exact ⟨by omega, by assumption⟩ | exact ⟨by simp, by simp⟩) (by first | omega | simp [wtL_nil])
     refine g_callT s0 rfl (.cons (.own (by decide) (.here)) .nil) (c33) rfl (ins_ro (ty := 37) rfl (okRMsg a3.tail) (ins_agg ⟨_, rfl, rfl⟩ (insMsg (vPop1 a3)) (ins_sc ins_nil))) ?_
     rintro _ _ H ⟨x35, _, _, lx35, rfl, rfl, ⟨_, _, _, _, rfl, rfl, ⟨x34, lx34, rfl, rfl⟩, ⟨_, rfl, ⟨rfl, rfl⟩⟩⟩⟩ s36
     simp only [List.nil_append, List.cons_append] at s36
     refine g_extr (v := x35) rfl ?_
     refine g_extr (v := .agg [.sc (.string ((vPop1 a3).fTopic)), x34, .sc (.int .i64 ((vPop1 a3).fQos)), .sc (.bool (vPop1 a3).fRetain)]) rfl ?_
     refine g_extr (v := .sc (.bool (vPop2 a3))) rfl ?_
     refine g_new s36 fun i37 H s38 => ?_
     refine g_st (cs' := [.sc (.string ((vPop1 a3).fTopic)), x34, .sc (.int .i64 ((vPop1 a3).fQos)), .sc (.bool (vPop1 a3).fRetain)]) s38 (.here) (cells_agg (lf_c rfl (lf_c lx34 (lf_c rfl (lf_c rfl rfl))))) rfl (Nat.le_of_ble_eq_true rfl) rfl fun H s39 => ?_
     refine g_not ?_
     refine g_gY (nF (fq_pop2 hinv hz0 (by omega))) ?_
     refine g_ldW s39 (.here) rfl ?_
     refine g_gY (nF (fq_pop2 hinv hz0 (by omega))) ?_
     refine g_gY (nF (fq_pop2 hinv hz0 (by omega))) ?_
     refine g_gY (nF (fq_pop2 hinv hz0 (by omega))) ?_
     have s40 := s39.toShs (.there (.there (.there (.there (.there (.there (.there (.here))))))))
     obtain ⟨y41, he42⟩ : ∃ y, (r1)[(z).toNat]? = some y := ⟨_, List.getElem?_eq_getElem (by first | omega | (simp at *; omega))⟩
     refine g_elt (y := y41) s40 ⟨_, _, rfl, rfl, rfl, rfl⟩ (.here) (by omega) he42 lenMsg flMsg rfl fun de42 oe42 raw hl hlf re42 hsc se42 => ?_
     obtain ⟨e42r1, le42r1, rfl⟩ := eltMsg hl hlf hsc
     clear hl hlf hsc
     refine g_gY (nF (fq_pop2 hinv hz0 (by omega))) ?_
     refine g_ldE2 re42 ?_
     refine g_gY (nF (fq_pop2 hinv hz0 (by omega))) ?_
     refine g_callS (v := (.bool (vSameMsg (vPop1 a3) y41))) se42 rfl (.agg (.cons .sc (.cons (.own (by decide) (.there (.there (.here)))) (.cons .sc (.cons .sc .nil)))) (.agg (.cons .sc (.cons (.shsE (k := 1) (by decide) (.here) rfl) (.cons .sc (.cons .sc .nil)))) .nil)) (implSameMsgF (n + 27) _ (vPop1 a3) y41) ?_
     refine g_gY (nF (fq_pop2 hinv hz0 (by omega))) ?_
     refine g_not ?_
     refine g_pF (nF (fq_pop2 hinv hz0 (by omega))) ?_
     refine g_gY (nF (fq_same (z := z) hinv he42)) ?_
     refine g_gY (nF (fq_same (z := z) hinv he42)) ?_
     refine g_gY (nF (fq_same (z := z) hinv he42)) ?_
     refine g_callS (v := (.bool (vEnds (vPush r1 r2) a3.tail))) se42 rfl (.cons (.own (by decide) (.there (.there (.there (.there (.there (.there (.here)))))))) (.cons (.own (by decide) (.there (.there (.there (.here))))) .nil)) (implEndsF (n + 23) (by omega) _ (vPush r1 r2) a3.tail (by first | omega | (simp; done) | (simp; omega) | (have := (tl_wt (vPush r1 r2)).2; omega) | (have := (tl_wt a3).2; omega)) (by first | omega | (simp; done) | (simp; omega) | (have := (tl_wt (vPush r1 r2)).2; omega) | (have := (tl_wt a3).2; omega))) ?_
     refine g_gY (nF (fq_same (z := z) hinv he42)) ?_
     refine g_not ?_
     refine g_pF (nF (fq_same (z := z) hinv he42)) ?_
     refine g_cF (nF (fq_ends2 hpv.1 hinv hz0 (by omega))) ?_
     refine g_add (by omega) (by omega) ?_
     have s43 := se42.ofShs (.here)
     have e44 : a3.tail = (r1 ++ [r2]).drop ((z + 1) : Int).toNat := by
      first | exact fq_tail hinv hz0 | exact fq_tail hinv0 (Int.le_refl 0)
     exact ih m _ a3.tail x35 0 0 _ (by omega) (by omega) lx35 e44 (s43.sel (.cons (.there (.there (.there (.here)))) (.cons (.there (.there (.there (.there (.here))))) (.cons (.there (.there (.there (.there (.here))))) (.cons (.there (.there (.there (.there (.here))))) (.cons (.here) (.cons (.there (.there (.there (.here)))) (.skip (.skip (.skip .nil))))))))))
   rw [f4_l0]
   try simp only [PR_box, PR_new, PR_newSl, PR_fadr, PR_load, PR_store, PR_bin, PR_binB, PR_binA, PR_un, PR_cond, PR_guard, PR_pick, PR_len, PR_lenS, PR_iadr, PR_idx, PR_slice, PR_sliceS, PR_fill, PR_make, PR_app, PR_appS, PR_cvI, PR_cvSS, PR_cvBS, PR_cvSB, PR_extr, PR_nil, PR_clear, PR_fld, PR_apart, PR_same]
   refine g_lenO s12 (.there (.there (.there (.here)))) ?_
   refine g_lss ?_
   refine w_split ((decide (0 < ((r1.length : Nat) : Int)))) (fun h45 => ?_) (fun h45 => ?_)
   ·refine g_cT h45 ?_
    have c46 := implF_Pop (n + 25) (by omega) (vPush r1 r2) (by first | exact ⟨by omega, by assumption⟩ | exact ⟨by simp, by simp⟩) (by first | omega | simp [wtL_nil])
    refine g_callT s12 rfl (.cons (.own (by decide) (.there (.here))) .nil) (c46) rfl (ins_ro (ty := 37) rfl (okRMsg ((vPush r1 r2).tail)) (ins_agg ⟨_, rfl, rfl⟩ (insMsg (vPop1 (vPush r1 r2))) (ins_sc ins_nil))) ?_
    rintro _ _ H ⟨x48, _, _, lx48, rfl, rfl, ⟨_, _, _, _, rfl, rfl, ⟨x47, lx47, rfl, rfl⟩, ⟨_, rfl, ⟨rfl, rfl⟩⟩⟩⟩ s49
    simp only [List.nil_append, List.cons_append] at s49
    refine g_extr (v := x48) rfl ?_
    refine g_extr (v := .agg [.sc (.string ((vPop1 (vPush r1 r2)).fTopic)), x47, .sc (.int .i64 ((vPop1 (vPush r1 r2)).fQos)), .sc (.bool (vPop1 (vPush r1 r2)).fRetain)]) rfl ?_
    refine g_extr (v := .sc (.bool (vPop2 (vPush r1 r2)))) rfl ?_
    refine g_new s49 fun i50 H s51 => ?_
    refine g_st (cs' := [.sc (.string ((vPop1 (vPush r1 r2)).fTopic)), x47, .sc (.int .i64 ((vPop1 (vPush r1 r2)).fQos)), .sc (.bool (vPop1 (vPush r1 r2)).fRetain)]) s51 (.here) (cells_agg (lf_c rfl (lf_c lx47 (lf_c rfl (lf_c rfl rfl))))) rfl (Nat.le_of_ble_eq_true rfl) rfl fun H s52 => ?_
    refine g_not ?_
    refine g_gY (nF (fq_pop2 hinv0 (Int.le_refl 0) (by omega))) ?_
    refine g_ldW s52 (.here) rfl ?_
    refine g_gY (nF (fq_pop2 hinv0 (Int.le_refl 0) (by omega))) ?_
    refine g_gY (nF (fq_pop2 hinv0 (Int.le_refl 0) (by omega))) ?_
    refine g_gY (nF (fq_pop2 hinv0 (Int.le_refl 0) (by omega))) ?_
    have s53 := s52.toShs (.there (.there (.there (.there (.there (.there (.here)))))))
    obtain ⟨y54, he55⟩ : ∃ y, (r1)[(0 : Int).toNat]? = some y := ⟨_, List.getElem?_eq_getElem (by first | omega | (simp at *; omega))⟩
    refine g_elt (y := y54) s53 ⟨_, _, rfl, rfl, rfl, rfl⟩ (.here) (by omega) he55 lenMsg flMsg rfl fun de55 oe55 raw hl hlf re55 hsc se55 => ?_
    obtain ⟨e55r1, le55r1, rfl⟩ := eltMsg hl hlf hsc
    clear hl hlf hsc
    refine g_gY (nF (fq_pop2 hinv0 (Int.le_refl 0) (by omega))) ?_
    refine g_ldE2 re55 ?_
    refine g_gY (nF (fq_pop2 hinv0 (Int.le_refl 0) (by omega))) ?_
    refine g_callS (v := (.bool (vSameMsg (vPop1 (vPush r1 r2)) y54))) se55 rfl (.agg (.cons .sc (.cons (.own (by decide) (.there (.there (.here)))) (.cons .sc (.cons .sc .nil)))) (.agg (.cons .sc (.cons (.shsE (k := 1) (by decide) (.here) rfl) (.cons .sc (.cons .sc .nil)))) .nil)) (implSameMsgF (n + 27) _ (vPop1 (vPush r1 r2)) y54) ?_
    refine g_gY (nF (fq_pop2 hinv0 (Int.le_refl 0) (by omega))) ?_
    refine g_not ?_
    refine g_pF (nF (fq_pop2 hinv0 (Int.le_refl 0) (by omega))) ?_
    refine g_gY (nF (fq_same (z := 0) hinv0 he55)) ?_
    refine g_gY (nF (fq_same (z := 0) hinv0 he55)) ?_
    refine g_gY (nF (fq_same (z := 0) hinv0 he55)) ?_
    refine g_callS (v := (.bool (vEnds (vPush r1 r2) ((vPush r1 r2).tail)))) se55 rfl (.cons (.own (by decide) (.there (.there (.there (.there (.there (.here))))))) (.cons (.own (by decide) (.there (.there (.there (.here))))) .nil)) (implEndsF (n + 23) (by omega) _ (vPush r1 r2) ((vPush r1 r2).tail) (by first | omega | (simp; done) | (simp; omega) | (have := (tl_wt (vPush r1 r2)).2; omega) | (have := (tl_wt a3).2; omega)) (by first | omega | (simp; done) | (simp; omega) | (have := (tl_wt (vPush r1 r2)).2; omega) | (have := (tl_wt a3).2; omega))) ?_
    refine g_gY (nF (fq_same (z := 0) hinv0 he55)) ?_
    refine g_not ?_
    refine g_pF (nF (fq_same (z := 0) hinv0 he55)) ?_
    refine g_cF (nF (fq_ends2 hpv.1 hinv0 (Int.le_refl 0) (by omega))) ?_
    refine g_add (by omega) (by omega) ?_
    have dh13 := of_decide_eq_true h13
    have dh45 := of_decide_eq_true h45
    have s56 := se55.ofShs (.here)
    have e57 : ((vPush r1 r2).tail) = (r1 ++ [r2]).drop ((0 + 1) : Int).toNat := by
     first | exact fq_tail hinv hz0 | exact fq_tail hinv0 (Int.le_refl 0)
    exact lp14 (max (((r1.length : Nat) : Int)) 0 - (0 + 1)).toNat _ _ ((vPush r1 r2).tail) x48 0 0 _ (by omega) (by omega) lx48 e57 (s56.sel (.cons (.there (.there (.there (.here)))) (.cons (.there (.there (.there (.here)))) (.cons (.there (.there (.there (.here)))) (.cons (.there (.there (.there (.here)))) (.cons (.here) (.cons (.there (.there (.here))) (.skip (.skip .nil)))))))))
   ·refine g_cF h45 ?_
    have c58 := implF_Pop (n + 25) (by omega) (vPush r1 r2) (by first | exact ⟨by omega, by assumption⟩ | exact ⟨by simp, by simp⟩) (by first | omega | simp [wtL_nil])
    refine g_callT s12 rfl (.cons (.own (by decide) (.there (.here))) .nil) (c58) rfl (ins_ro (ty := 37) rfl (okRMsg ((vPush r1 r2).tail)) (ins_agg ⟨_, rfl, rfl⟩ (insMsg (vPop1 (vPush r1 r2))) (ins_sc ins_nil))) ?_
    rintro _ _ H ⟨x60, _, _, lx60, rfl, rfl, ⟨_, _, _, _, rfl, rfl, ⟨x59, lx59, rfl, rfl⟩, ⟨_, rfl, ⟨rfl, rfl⟩⟩⟩⟩ s61
    simp only [List.nil_append, List.cons_append] at s61
    refine g_extr (v := x60) rfl ?_
    refine g_extr (v := .agg [.sc (.string ((vPop1 (vPush r1 r2)).fTopic)), x59, .sc (.int .i64 ((vPop1 (vPush r1 r2)).fQos)), .sc (.bool (vPop1 (vPush r1 r2)).fRetain)]) rfl ?_
    refine g_extr (v := .sc (.bool (vPop2 (vPush r1 r2)))) rfl ?_
    refine g_new s61 fun i62 H s63 => ?_
    refine g_st (cs' := [.sc (.string ((vPop1 (vPush r1 r2)).fTopic)), x59, .sc (.int .i64 ((vPop1 (vPush r1 r2)).fQos)), .sc (.bool (vPop1 (vPush r1 r2)).fRetain)]) s63 (.here) (cells_agg (lf_c rfl (lf_c lx59 (lf_c rfl (lf_c rfl rfl))))) rfl (Nat.le_of_ble_eq_true rfl) rfl fun H s64 => ?_
    have c65 := implF_Pop (n + 25) (by omega) (vPush r1 r2).tail ⟨by have := (tl_wt (vPush r1 r2)).2; omega, tl_ok (by assumption)⟩ (by have := (tl_wt (vPush r1 r2)).1; omega)
    refine g_callT s64 rfl (.cons (.own (by decide) (.there (.there (.here)))) .nil) (c65) rfl (ins_ro (ty := 37) rfl (okRMsg ((vPush r1 r2).tail.tail)) (ins_agg ⟨_, rfl, rfl⟩ (insMsg (vPop1 (vPush r1 r2).tail)) (ins_sc ins_nil))) ?_
    rintro _ _ H ⟨x67, _, _, lx67, rfl, rfl, ⟨_, _, _, _, rfl, rfl, ⟨x66, lx66, rfl, rfl⟩, ⟨_, rfl, ⟨rfl, rfl⟩⟩⟩⟩ s68
    simp only [List.nil_append, List.cons_append] at s68
    refine g_extr (v := x67) rfl ?_
    refine g_extr (v := .agg [.sc (.string ((vPop1 (vPush r1 r2).tail).fTopic)), x66, .sc (.int .i64 ((vPop1 (vPush r1 r2).tail).fQos)), .sc (.bool (vPop1 (vPush r1 r2).tail).fRetain)]) rfl ?_
    refine g_extr (v := .sc (.bool (vPop2 (vPush r1 r2).tail))) rfl ?_
    refine g_new s68 fun i69 H s70 => ?_
    refine g_st (cs' := [.sc (.string ((vPop1 (vPush r1 r2).tail).fTopic)), x66, .sc (.int .i64 ((vPop1 (vPush r1 r2).tail).fQos)), .sc (.bool (vPop1 (vPush r1 r2).tail).fRetain)]) s70 (.here) (cells_agg (lf_c rfl (lf_c lx66 (lf_c rfl (lf_c rfl rfl))))) rfl (Nat.le_of_ble_eq_true rfl) rfl fun H s71 => ?_
    refine g_callS (v := (.bool (vQueueOk (vPush r1 r2)))) s71 rfl (.cons (.own (by decide) (.there (.there (.there (.there (.there (.there (.there (.here))))))))) .nil) (implF_QueueOk (n + 21) (by omega) (vPush r1 r2) ⟨by omega, by assumption⟩ (by omega)) ?_
    refine g_gY hqy ?_
    refine g_pT hqy ?_
    refine g_gY (fq_pop2 hinv0 (Int.le_refl 0) (by omega)) ?_
    refine g_ldW s71 (.there (.there (.there (.here)))) rfl ?_
    refine g_gY (fq_pop2 hinv0 (Int.le_refl 0) (by omega)) ?_
    refine g_ldW s71 (.there (.there (.there (.there (.there (.there (.there (.there (.here))))))))) rfl ?_
    refine g_gY (fq_pop2 hinv0 (Int.le_refl 0) (by omega)) ?_
    refine g_callS (v := (.bool (vSameMsg (vPop1 (vPush r1 r2)) r2))) s71 rfl (.agg (.cons .sc (.cons (.own (by decide) (.there (.there (.there (.there (.here)))))) (.cons .sc (.cons .sc .nil)))) (.agg (.cons .sc (.cons (.own (by decide) (.there (.there (.there (.there (.there (.there (.there (.there (.there (.there (.here)))))))))))) (.cons .sc (.cons .sc .nil)))) .nil)) (implSameMsgF (n + 27) _ (vPop1 (vPush r1 r2)) r2) ?_
    refine g_pT (fq_pop2 hinv0 (Int.le_refl 0) (by omega)) ?_
    refine g_gY (by rw [(fq_lastP hinv0 (by assumption))]; exact same_refl _) ?_
    refine g_gY (by rw [(fq_lastP hinv0 (by assumption))]; exact same_refl _) ?_
    refine g_lenO s71 (.there (.there (.there (.there (.there (.here)))))) ?_
    refine g_gY (by rw [(fq_lastP hinv0 (by assumption))]; exact same_refl _) ?_
    refine g_eql ?_
    refine g_pT (by rw [(fq_lastP hinv0 (by assumption))]; exact same_refl _) ?_
    refine g_gY (by rw [(fq_lastP hinv0 (by assumption))]; rfl) ?_
    refine g_gY (by rw [(fq_lastP hinv0 (by assumption))]; rfl) ?_
    refine g_not ?_
    refine g_pT (by rw [(fq_lastP hinv0 (by assumption))]; rfl) ?_
    refine g_gY (nT (by rw [(fq_lastP hinv0 (by assumption))]; rfl)) ?_
    refine g_gY (nT (by rw [(fq_lastP hinv0 (by assumption))]; rfl)) ?_
    refine g_gY (nT (by rw [(fq_lastP hinv0 (by assumption))]; rfl)) ?_
    refine g_gY (nT (by rw [(fq_lastP hinv0 (by assumption))]; rfl)) ?_
    refine g_lenO s71 (.there (.there (.there (.there (.there (.there (.there (.there (.there (.here)))))))))) ?_
    refine g_gY (nT (by rw [(fq_lastP hinv0 (by assumption))]; rfl)) ?_
    have s72 := s71.toShs (.there (.there (.there (.there (.there (.there (.there (.there (.there (.here))))))))))
    refine g_sliceR (a := ((r1.length : Nat) : Int)) (b := ((r1.length : Nat) : Int)) s72 ⟨_, _, rfl, rfl, rfl, rfl⟩ (.here) rfl rfl (by omega) (by first | omega | (simp; omega)) (by first | omega | (simp; omega)) lenMsg rfl fun y73 ly73 s74 => ?_
    refine g_gY (nT (by rw [(fq_lastP hinv0 (by assumption))]; rfl)) ?_
    refine g_callS (v := (.bool (vEnds (vPush r1 r2) ((r1.drop ((r1.length : Nat) : Int).toNat).take (((r1.length : Nat) : Int).toNat - ((r1.length : Nat) : Int).toNat))))) s74 rfl (.cons (.own (by decide) (.there (.there (.there (.there (.there (.there (.there (.there (.here)))))))))) (.cons (.shsE (k := 0) (by decide) (.here) rfl) .nil)) (implEndsF (n + 23) (by omega) _ (vPush r1 r2) ((r1.drop ((r1.length : Nat) : Int).toNat).take (((r1.length : Nat) : Int).toNat - ((r1.length : Nat) : Int).toNat)) (by first | omega | (simp; done) | (simp; omega) | (have := (tl_wt (vPush r1 r2)).2; omega) | (have := (tl_wt a3).2; omega)) (by first | omega | (simp; done) | (simp; omega) | (have := (tl_wt (vPush r1 r2)).2; omega) | (have := (tl_wt a3).2; omega))) ?_
    refine g_pT (nT (by rw [(fq_lastP hinv0 (by assumption))]; rfl)) ?_
    refine g_gY (by simp [vEnds, all2]) ?_
    refine g_ldW s74 (.there (.there (.there (.there (.there (.there (.there (.there (.there (.here)))))))))) rfl ?_
    refine g_gY (by simp [vEnds, all2]) ?_
    refine g_ldW s74 (.there (.there (.there (.there (.there (.there (.there (.there (.there (.here)))))))))) rfl ?_
    refine g_gY (by simp [vEnds, all2]) ?_
    refine g_callS (v := (.bool (vSameMsg r2 r2))) s74 rfl (.agg (.cons .sc (.cons (.own (by decide) (.there (.there (.there (.there (.there (.there (.there (.there (.there (.there (.here)))))))))))) (.cons .sc (.cons .sc .nil)))) (.agg (.cons .sc (.cons (.own (by decide) (.there (.there (.there (.there (.there (.there (.there (.there (.there (.there (.here)))))))))))) (.cons .sc (.cons .sc .nil)))) .nil)) (implSameMsgF (n + 27) _ r2 r2) ?_
    refine g_pT (by simp [vEnds, all2]) ?_
    have s75 := s74.ofShs (.here)
    refine g_ret rfl ?_
    exact congrArg (fun b => some (AV.sc (.bool b))) (same_refl _)
  ·refine g_cT (nT h13) ?_
   refine g_callS (v := (.bool (decide ((vPush r1 r2).length = r1.length) && vEnds (vPush r1 r2) r1))) s12 rfl (.cons (.own (by decide) (.there (.here))) (.cons (.own (by decide) (.there (.there (.there (.here))))) .nil)) (sameMsgsF (n + 21) (by omega) (vPush r1 r2) r1 (by have := push_len r1 r2; omega) (by omega)) ?_
   refine g_ret rfl ?_
   first | rfl | (congr 3; simp_all [push_no, ends_self]; done) | (exfalso; simp_all; done)
 ·refine g_cT (decide_eq_true (by omega)) ?_
  exact g_ret rfl rfl
end Go.Proofs.YtejjggnchdldoaaDoor.Abs
namespace Go.Proofs.YtejjggnchdldoaaDoor.Abs
open Go
set_option linter.unusedVariables false
set_option linter.unusedSimpArgs false
end Go.Proofs.YtejjggnchdldoaaDoor.Abs
namespace Go.Proofs.YtejjggnchdldoaaDoor.fnQueues
open Go Go.Shelf Go.Lib Go.ChangeShapes Go.WideShapes Go.ChangeAt Go.RowKit
open Go.Proofs.YtejjggnchdldoaaDoor.Abs
set_option linter.unusedVariables false
theorem own : ownKnob Tryd.prog.godebug = none := by kernel_rfl
theorem laidOut : laidOutB Tryd.prog = true := by kernel_rfl
theorem types : ([23].all (tyB ti0 14)) = true := by kernel_rfl
theorem readable : ([23].all fun t => Tryd.prog.readableRec t && decide (t < Tryd.prog.types.size)) = true := by kernel_rfl
theorem pure_ {xs : List AV} (h : okAs ti0 14 [23] xs) : ∃ n, tree E0 n 4 4 xs = some (.sc (.bool true)) := by
 obtain ⟨y0, ys0, rfl, ⟨cs0, h0, rfl⟩, h⟩ := h
 obtain rfl := h
 obtain ⟨x0, rfl, k0⟩ := okT_bytes' ⟨_, rfl, rfl, rfl, rfl, rfl, rfl⟩ h0
 exact ⟨_, law_FnQueues 1048577 (by omega) x0 k0⟩
def wArgs : Array Value := #[.slice none 0 0]
noncomputable def laidWorld (os : Os) : World :=
 let w0 := World.holding Tryd.prog os ⟨#[], #[], []⟩
 let put (h : Array Obj) (g : Nat) (cs : Array Value) : Array Obj := h.modify g fun
  | .cells _ t frozen => .cells cs t frozen
  | o => o
 let h1 := put w0.heap 0 (Lib.firstTab.map fun z => Value.int .u8 z).toArray
 let h2 := put h1 1 ((List.range 16).flatMap fun i => [Value.int .u8 (Lib.accLo i), Value.int .u8 (Lib.accHi i)]).toArray
 { w0 with heap := h2 }
theorem laid_met (os : Os) (args : Array Value) : laidMet Tryd.prog Rows.fnQueuesRow.laid ((laidWorld os).forCall (fun _ _ => 0) ⟨#[], args, []⟩).memory :=
 (LaidIn.of_run (l := Rows.fnQueuesRow.laid) [0, 1] 8 (by kernel_rfl) (by kernel_rfl) (by kernel_rfl) (by kernel_rfl)).met
set_option maxRecDepth 100000 in
theorem witness_row (os : Os) {H : Type} (enc : TypeId × Value → H) :
  (OpenSpec.ofChange Rows.fnQueuesSpec).preRow enc Tryd.prog Tryd.f4 Rows.fnQueuesRow.domain false Rows.fnQueuesRow.laid ((laidWorld os).forCall (fun _ _ => 0) ⟨#[], wArgs, []⟩).memory wArgs := by
 have hw : ((DataW.whole enc Tryd.prog ((laidWorld os).forCall (fun _ _ => 0) ⟨#[], wArgs, []⟩).memory Tryd.f4.params.toList (OpenSpec.ofChange Rows.fnQueuesSpec).vars false wArgs.toList 8).map (fun x => x.2.1)) = some [] := by kernel_rfl
 obtain ⟨⟨x1, x2, x3⟩, hx, hx1⟩ := Option.map_eq_some_iff.1 hw
 simp only at hx1
 subst hx1
 exact OpenSpec.preRow_of_cond 8 hx rfl (fun k hk => by cases hk) rfl (laid_met os _)
set_option maxRecDepth 100000 in
set_option maxHeartbeats 2000000 in
theorem lifted (os : Os) (started : os.Started) (H : Type) (enc : TypeId × Value → H) (F : Stop.Interp) :
  ReturnsInHanded {} Tryd.checked os 4 .any ((OpenSpec.ofChange Rows.fnQueuesSpec).preRow enc Tryd.prog Tryd.f4 Rows.fnQueuesRow.domain false Rows.fnQueuesRow.laid) (((OpenSpec.ofChange Rows.fnQueuesSpec).at F).post enc Tryd.prog Tryd.f4 false true false false) := by
 refine returnsInHanded_of_row (C := Tryd.checked) (s := OpenSpec.ofChange Rows.fnQueuesSpec) own started (by kernel_rfl) Tryd.func4
  (witness_row_atRef (enc := enc) (C := Tryd.checked) false (laidWorld os) wArgs rfl (by kernel_rfl) (by kernel_rfl) (by kernel_rfl) (witness_row os enc)) ?_
 intro W base args ds gs before hval0 hW _ _ _ hL hS _
 have hval : ∀ (j : Nat) t v, Tryd.f4.params[j]? = some t → args[j]? = some v → Value.okWide Tryd.prog W .any base t v := hval0
 have hW' := hW
 obtain ⟨p, q, hA0, hV, rfl, hfz, hnd⟩ := hW
 have hA : DataW.TrodAll enc Tryd.prog W 0 (fun _ => true) true Tryd.f4.params.toList args.toList ds p := hA0
 rw [Tryd.params4] at hA hval
 obtain ⟨xs, hok, hl, hx⟩ := args_sound tabOk0 (n := 14) [23] args.toList ds p hA (fun j t v ht hv => hval j t v (by simpa using ht) (by simpa using hv)) types
 obtain ⟨m, hm⟩ := pure_ hok
 have htab0 := utf8Tabs_of_readsT (U8Types.of196 Tryd.laysValid) ⟨by kernel_rfl, by kernel_rfl, by kernel_rfl, by kernel_rfl, by kernel_rfl, by kernel_rfl, by kernel_rfl⟩ (Pinned.utf8First_eq ▸ Lib.laidMet.reads hL (.tail _ (.head _))) (Lib.laidMet.reads hL (.head _))
 have htab : J0 W := ⟨htab0, cell_of_shapedOpen_int (zero := #[.int .i64 0]) hS (of_decide_eq_true (by kernel_rfl)) (by kernel_rfl) rfl (by kernel_rfl) (by kernel_rfl) Tryd.underlying3⟩
 have hc := tree_bool env0 hm (w := W) htab hl hx
 have hA1 := hA
 obtain ⟨v0, vs0, d0, ds0, p0, q0, hargs, rfl, rfl, g0, r0⟩ := trodAll_cons hA
 obtain ⟨rfl, rfl, rfl⟩ := trodAll_nil r0
 obtain ⟨rfl, rfl⟩ := trodVars_none hV
 have hc2 : Calls Tryd.prog 4 args W fun e W' => e = .returned (.bool true) ∧ Below W.heap.size W W' := by simpa using hc
 refine hc2.mono fun e W' ⟨he, bel⟩ => ?_
 subst he
 exact ⟨_, rfl, _, _, _, [], _, [], hW', trodAll_mk1 (shut_bool Tryd.underlying4 _), trodAll_stays laidOut bel readable hA1, rfl, bel.frame _, fun h => by cases h⟩
theorem over : Rows.FnQueuesSaid :=
 OpenClaim.holds_of_cond 4 Tryd.f4 rfl rfl rfl rfl rfl rfl rfl ⟨rfl, rfl, rfl, rfl, rfl⟩ rfl rfl rfl rfl rfl (by kernel_rfl) Tryd.func4 (by kernel_rfl)
  (of_decide_eq_true (by kernel_rfl)) (by unfold Func.isWrapper; first | (rw [if_pos (by decide +kernel)]; kernel_rfl) | (rw [if_neg (by decide +kernel)]; exact ⟨rfl, rfl⟩))
  (fun os started H enc _ F0 => by rw [OpenClaim.pre_eq_preRow]; exact lifted os started H enc F0)
theorem proved : Rows.FnQueuesCardSaid :=
 Claim7.holds_tied_plain_at .later [] [.data, .pinned] true (true, "1895ff4382d146d592babc2927af436ba3b9c299382109b0d72c9fbf782b4bc2") false
  over (fun _ h => by cases h) (by kernel_rfl) (fun _ h => by cases h) fnQueues_row_tie rfl ⟨rfl, rfl⟩ (by kernel_rfl) rfl
  (fun f fn hf hfn => by
   obtain rfl : f = 4 := Option.some.inj ((show Tryd.prog.funcNamed "loop.example/g00480/laws.FnQueues" = some 4 by kernel_rfl).symm.trans hf) |>.symm
   obtain rfl : fn = Tryd.f4 := (Option.some.inj (Tryd.func4.symm.trans hfn)).symm
   exact ⟨by kernel_rfl, fun j t ht => by
    rw [Tryd.params4] at ht
    have hm : t ∈ [23] := by simpa using Array.mem_of_getElem? ht
    have hall : ([23].all fun u => !Tryd.prog.wantsStandIn u) = true := by kernel_rfl
    exact (show Tryd.prog.wantsStandIn t = false by simpa using List.all_eq_true.1 hall t hm)⟩)
  (by kernel_rfl)
#print axioms proved
end Go.Proofs.YtejjggnchdldoaaDoor.fnQueues
namespace Go.Proofs.YtejjggnchdldoaaDoor
theorem fnQueues_holds : Rows.FnQueuesCardSaid := fnQueues.proved
end Go.Proofs.YtejjggnchdldoaaDoor
