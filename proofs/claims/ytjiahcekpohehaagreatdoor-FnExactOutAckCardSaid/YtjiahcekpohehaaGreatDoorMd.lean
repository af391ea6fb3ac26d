/- What the proof needs, part 4: a sound evaluator over trees, the program's functions on it, and what they come to. -/
import Derived.Test.YtjiahcekpohehaaGreatDoorMc
import Derived.Lib.TrimUEq
import Derived.Lib.ValidLaws
import Derived.Lib.MapLaws
set_option linter.unusedVariables false
set_option linter.unusedSimpArgs false
set_option maxRecDepth 100000
namespace Go.Proofs.YtjiahcekpohehaaGreatDoor.Abs
section
open Go
theorem Akb : ∀ X : Fin 256, bits .and .i64 ((X.val : Nat) : Int) 31 = ((X.val % 32 : Nat) : Int) := by decide +kernel
theorem Aka : ∀ X : Fin 256, bits .and .i64 ((X.val : Nat) : Int) 15 = ((X.val % 16 : Nat) : Int) := by decide +kernel
theorem Akc : ∀ X : Fin 256, bits .and .i64 ((X.val : Nat) : Int) 7 = ((X.val % 8 : Nat) : Int) := by decide +kernel
def Pj (d : Nat × Nat) (i : Nat) : AV := if d.1 = 65533 ∧ d.2 = 1 then .tup [.sc (.int .i64 0), .sc (.int .i64 0), .sc (.bool false)] else .tup [.sc (.int .i64 d.1), .sc (.int .i64 ((i + d.2 : Nat) : Int)), .sc (.bool true)]
def Y1 : AV := .tup [.sc (.int .i64 0), .sc (.int .i64 0), .sc (.bool false)]
theorem AhM (s : ByteArray) (i : Nat) (h : i < s.size) (H : Ab) (k : AV → Option AV) : (Cg 1 (As s) (.sc (.int .i64 i)) fun t => Bh false 1 t H k) = k (.sc (.int .u8 (s.data.toList.getD i 0).toNat)) := by
 rw [Kk 1 _ _ i _ h (by rw [Fi]; omega)]
 have hl : i < s.data.toList.length := by simpa using h
 have hd : (Bm s).drop (i * 1) = .sc (.int .u8 (s.data.toList.getD i 0).toNat) :: (Bm s).drop (i + 1) := by
  rw [Nat.mul_one, List.drop_eq_getElem_cons (by rw [Fi]; omega)]
  congr 1
  simp [Bm, List.getD_eq_getElem?_getD, h]
 rw [hd, Jo]
section loop
variable (n : Nat) (k : AV → Ab → Option AV) (H : Ab) (s : ByteArray)
theorem Ii (m at' N v i : Nat) (least : Int) (hi : i ≤ N) (hb : at' + i < s.size) (hN : N ≤ 3) (hv : v < 100000000) (hs : s.size ≤ 1048576) :
  Ha (PR n AV) n k (m + 1) (As s) (.sc (.int .i64 at')) (.sc (.int .i64 N)) (.sc (.int .i64 least)) (.sc (.int .i64 v)) (.sc (.int .i64 i)) H =
   if (s.data.toList.getD (at' + i) 0).toNat / 64 = 2 then Ha (PR n AV) n k m (As s) (.sc (.int .i64 at')) (.sc (.int .i64 N)) (.sc (.int .i64 least)) (.sc (.int .i64 ((v * 64 + (s.data.toList.getD (at' + i) 0).toNat % 64 : Nat) : Int))) (.sc (.int .i64 ((i + 1 : Nat) : Int))) H else k Y1 H := by
 obtain ⟨y, hy⟩ : ∃ y, (s.data.toList.getD (at' + i) 0).toNat = y := ⟨_, rfl⟩
 have hylt : y < 256 := by rw [← hy]; exact (s.data.toList.getD (at' + i) 0).toNat_lt
 have hba := AhM s (at' + i) hb H
 rw [hy] at hba ⊢
 rw [Ha]
 simp only [Bg, A9, Ca, Bb, Ef, Br, B4]
 rw [Tq, Bl, if_pos (by simp; omega), Aac, ← Int.natCast_add, Gs _ (by omega) (by omega), hba]
 simp only [Wt, Xi, Option.bind_some]
 rw [Gs _ (by omega) (by omega), H5]
 by_cases h1 : y < 128
 ·refine C8 (by simp; omega) ?_
  refine C8 (by simp; omega) ?_
  refine AcV (by simp; omega) ?_
  rw [if_neg (by omega)]
  rfl
 ·refine C3 (by simp; omega) ?_
  refine C3 (by simp; omega) ?_
  rw [Ais]
  refine Z5 (by simp; omega) ?_
  by_cases h2 : y ≤ 191
  ·rw [Bl, if_neg (by simp; omega), if_pos (by omega), AkC, show (v : Int) * 64 = ((v * 64 : Nat) : Int) by omega, Gs _ (by omega) (by omega), Aac, ← Int.natCast_add, Gs _ (by omega) (by omega), Ms _ _ _ (by omega) (by omega), Dt _ _ (by omega)]
   congr 3
   omega
  ·rw [Bl, if_pos (by simp; omega), if_neg (by omega)]
   rfl
theorem Sn (n' : Nat) (hnn : n = n' + 1) (m at' N v least : Nat) (hN : N ≤ 3) (hv : v < 100000000) (ha : at' ≤ 1048576) :
  Ha (PR n AV) n k (m + 1) (As s) (.sc (.int .i64 at')) (.sc (.int .i64 N)) (.sc (.int .i64 least)) (.sc (.int .i64 v)) (.sc (.int .i64 ((N + 1 : Nat) : Int))) H =
   if v ≥ least ∧ (v < 55296 ∨ (57344 ≤ v ∧ v ≤ 1114111)) then k (.tup [.sc (.int .i64 v), .sc (.int .i64 ((at' + (N + 1) : Nat) : Int)), .sc (.bool true)]) H else k Y1 H := by
 subst hnn
 rw [Ha]
 simp only [Bg, A9, Ca, Bb, Ef, Br, B4]
 rw [Tq, Bl, if_neg (by simp; omega), H5]
 by_cases h1 : v < least
 ·have e : decide ((v : Int) < (least : Int)) = true := by simp; omega
  refine C8 e ?_
  refine C8 e ?_
  refine AcV e ?_
  refine C8 rfl ?_
  refine C8 rfl ?_
  refine AcV rfl ?_
  refine Hh rfl ?_
  rw [if_neg (by omega)]
  rfl
 ·have e : decide ((v : Int) < (least : Int)) = false := by simp; omega
  refine C3 e ?_
  refine C3 e ?_
  refine Bk (v := .sc (.bool (decide ((v : Int) > 1114111)))) (fun k => rfl) ?_
  refine Z5 e ?_
  by_cases h2 : v > 1114111
  ·have e2 : decide ((v : Int) > 1114111) = true := by simp; omega
   refine C8 e2 ?_
   refine C8 e2 ?_
   refine AcV e2 ?_
   refine Hh rfl ?_
   rw [if_neg (by omega)]
   rfl
  ·have e2 : decide ((v : Int) > 1114111) = false := by simp; omega
   refine C3 e2 ?_
   refine C3 e2 ?_
   refine Dv rfl (A8 (Cr _ _) (A8 (Cr _ _) (A8 (Cr _ _) Dc))) (P4 n' _ v 55296 57343) ?_
   refine Z5 e2 ?_
   by_cases h3 : 55296 ≤ v ∧ v ≤ 57343
   ·refine Hh (by simp [Gj]; omega) ?_
    rw [if_neg (by omega)]
    rfl
   ·refine Hz (by simp [Gj]; omega) ?_
    have e5 : ((at' : Int) + 1 + (N : Int)) = ((at' + (N + 1) : Nat) : Int) := by omega
    rw [if_pos (by omega), Aac, Gs _ (by omega) (by omega), Aac, Gs _ (by omega) (by omega), e5]
    rfl
end loop
theorem D1 (H : Ab) (a b c : Value) : Aw Ag E0.tp 282 H (.tup [.sc a, .sc b, .sc c]) = some (.tup [.sc a, .sc b, .sc c]) := rfl
set_option maxHeartbeats 1600000 in
theorem Ah6 (n : Nat) (hn : 1048576 < n) (s : ByteArray) (i : Nat) (hs : s.size ≤ 1048576) (hi : i < s.size) : Bt E0 (n + 2) 282 277 [As s, .sc (.int .i64 i)] = some (Pj (Lib.decodeL (s.data.toList.drop i)) i) := by
 have hg : ∀ j, (s.data.toList.drop i).getD j 0 = s.data.toList.getD (i + j) 0 := fun j => by simp [List.getD_eq_getElem?_getD, List.getElem?_drop]
 have hL : (s.data.toList.drop i).length = s.size - i := by simp
 have hg0 : (s.data.toList.drop i).getD 0 0 = s.data.toList.getD i 0 := hg 0
 rw [Lib.decodeL_N, hL, hg0, hg 1, hg 2, hg 3]
 obtain ⟨x, hx⟩ : ∃ x, (s.data.toList.getD i 0).toNat = x := ⟨_, rfl⟩
 have hxl : x < 256 := by rw [← hx]; exact (s.data.toList.getD i 0).toNat_lt
 obtain ⟨y1, hy1⟩ : ∃ x, (s.data.toList.getD (i + 1) 0).toNat = x := ⟨_, rfl⟩
 obtain ⟨y2, hy2⟩ : ∃ x, (s.data.toList.getD (i + 2) 0).toNat = x := ⟨_, rfl⟩
 obtain ⟨y3, hy3⟩ : ∃ x, (s.data.toList.getD (i + 3) 0).toNat = x := ⟨_, rfl⟩
 have b1 : y1 < 256 := by rw [← hy1]; exact (s.data.toList.getD (i + 1) 0).toNat_lt
 have b2 : y2 < 256 := by rw [← hy2]; exact (s.data.toList.getD (i + 2) 0).toNat_lt
 have b3 : y3 < 256 := by rw [← hy3]; exact (s.data.toList.getD (i + 3) 0).toNat_lt
 have hba := AhM s i hi []
 rw [hx] at hba
 rw [hx, hy1, hy2, hy3]
 have fails : Lib.decodeN (s.size - i) x y1 y2 y3 = (65533, 1) → some Y1 = some (Pj (Lib.decodeN (s.size - i) x y1 y2 y3) i) := fun h => by rw [h]; rfl
 have goes : ∀ v w, Lib.decodeN (s.size - i) x y1 y2 y3 = (v, w) → (w = 1 → v < 128) → some (.tup [.sc (.int .i64 v), .sc (.int .i64 ((i + w : Nat) : Int)), .sc (.bool true)]) = some (Pj (Lib.decodeN (s.size - i) x y1 y2 y3) i) := fun v w h hw => by
  rw [h, Pj, if_neg (by intro h; simp only at h; omega)]
 rw [Ax, AgG, f277]
 simp only [Bg, A9, Ca, Bb, Ef, Br, B4, B7]
 have e0 : decide ((i : Int) < 0) = false := by simp
 rw [H5]
 refine C3 e0 ?_
 refine C3 e0 ?_
 refine C3 e0 ?_
 refine Et ?_
 refine C3 e0 ?_
 refine Bk (v := .sc (.bool (decide ((i : Int) ≥ (s.size : Int))))) (fun k => rfl) ?_
 refine Z5 e0 ?_
 refine Hz (by simp; omega) ?_
 rw [hba]
 simp only [Wt, Xi, Option.bind_some]
 rw [Gs _ (by omega) (by omega), H5]
 by_cases c1 : x < 128
 ·refine Hh (by simp; omega) ?_
  rw [Dt _ _ (by omega)]
  exact (D1 _ _ _ _).trans (goes x 1 (by rw [Lib.decodeN, if_pos c1]) (fun _ => c1))
 ·refine Hz (by simp; omega) ?_
  obtain ⟨q, rfl⟩ : ∃ q, n = q + 4 := ⟨n - 4, by omega⟩
  apply Az (decide ((x : Int) ≥ 192) && decide ((x : Int) < 224))
  ·intro b hb
   refine Bk (v := .sc (.bool (decide ((x : Int) ≥ 192)))) (fun k => rfl) ?_
   refine Ae (decide ((x : Int) ≥ 192)) (fun h => ?_) (fun h => ?_)
   ·refine Al h ?_
    refine Al h ?_
    refine Bk (v := .sc (.bool (decide ((x : Int) < 224)))) (fun k => rfl) ?_
    refine Bv h (Gm hb h) ?_
    exact rfl
   ·refine Am h ?_
    refine Am h ?_
    refine Bu h (Gl hb h) ?_
    exact rfl
  intro b0 hb0
  by_cases d0 : 192 ≤ x ∧ x < 224
  ·refine Hh (by rw [hb0]; simp; omega) ?_
   refine Bk (v := .sc (.int .i64 ((x % 32 : Nat) : Int))) (fun k => by show k (.sc (.int .i64 (bits .and .i64 (x : Int) 31))) = _; rw [Akb ⟨x, hxl⟩]) ?_
   refine Et ?_
   refine Bk (v := .sc (.int .i64 ((s.size : Int) - 1))) (fun k => Ms _ _ _ (by omega) (by omega)) ?_
   refine Bk (v := .sc (.int .i64 ((s.size : Int) - 1 - 1))) (fun k => Ms _ _ _ (by omega) (by omega)) ?_
   refine Bk (v := .sc (.bool (decide ((i : Int) > (s.size : Int) - 1 - 1)))) (fun k => rfl) ?_
   by_cases c3 : i + 1 < s.size
   ·refine Hz (by simp; omega) ?_
    have r1 := Ii (q + 4 + 1) (fun x H => Aw Ag E0.tp 282 H x) [] s (q + 4) i 1 (x % 32) 1 128 (by omega) (by omega) (by omega) (by omega) hs
    rw [hy1] at r1
    refine r1.trans ?_
    by_cases k1 : y1 / 64 = 2
    rotate_left
    ·rw [if_neg k1]
     exact (D1 _ _ _ _).trans (fails (by unfold Lib.decodeN; rw [if_neg c1, if_neg (by omega), if_neg (by omega), if_neg (by omega)]))
    rw [if_pos k1]
    refine (Sn (q + 4 + 1) (fun x H => Aw Ag E0.tp 282 H x) [] s (q + 4) rfl (q + 3) i 1 ((x % 32) * 64 + y1 % 64) 128 (by omega) (by omega) (by omega)).trans ?_
    have hv : (x % 32) * 64 + y1 % 64 = x % 32 * 64 + y1 % 64 := by omega
    rw [hv]
    split
    ·exact (D1 _ _ _ _).trans (goes _ 2 (by unfold Lib.decodeN; rw [if_neg c1, if_pos (by omega), if_pos (by omega)]) (by omega))
    ·exact (D1 _ _ _ _).trans (fails (by unfold Lib.decodeN; rw [if_neg c1, if_pos (by omega), if_neg (by omega)]))
   ·refine Hh (by simp; omega) ?_
    exact (D1 _ _ _ _).trans (fails (by unfold Lib.decodeN; rw [if_neg c1, if_neg (by omega), if_neg (by omega), if_neg (by omega)]))
  ·refine Hz (by rw [hb0]; simp; omega) ?_
   apply Az (decide ((x : Int) ≥ 224) && decide ((x : Int) < 240))
   ·intro b hb
    refine Bk (v := .sc (.bool (decide ((x : Int) ≥ 224)))) (fun k => rfl) ?_
    refine Ae (decide ((x : Int) ≥ 224)) (fun h => ?_) (fun h => ?_)
    ·refine Al h ?_
     refine Al h ?_
     refine Bk (v := .sc (.bool (decide ((x : Int) < 240)))) (fun k => rfl) ?_
     refine Bv h (Gm hb h) ?_
     exact rfl
    ·refine Am h ?_
     refine Am h ?_
     refine Bu h (Gl hb h) ?_
     exact rfl
   intro b1 hb1
   by_cases d1 : 224 ≤ x ∧ x < 240
   ·refine Hh (by rw [hb1]; simp; omega) ?_
    refine Bk (v := .sc (.int .i64 ((x % 16 : Nat) : Int))) (fun k => by show k (.sc (.int .i64 (bits .and .i64 (x : Int) 15))) = _; rw [Aka ⟨x, hxl⟩]) ?_
    refine Et ?_
    refine Bk (v := .sc (.int .i64 ((s.size : Int) - 1))) (fun k => Ms _ _ _ (by omega) (by omega)) ?_
    refine Bk (v := .sc (.int .i64 ((s.size : Int) - 1 - 2))) (fun k => Ms _ _ _ (by omega) (by omega)) ?_
    refine Bk (v := .sc (.bool (decide ((i : Int) > (s.size : Int) - 1 - 2)))) (fun k => rfl) ?_
    by_cases c3 : i + 2 < s.size
    ·refine Hz (by simp; omega) ?_
     have r1 := Ii (q + 4 + 1) (fun x H => Aw Ag E0.tp 282 H x) [] s (q + 4) i 2 (x % 16) 1 2048 (by omega) (by omega) (by omega) (by omega) hs
     rw [hy1] at r1
     refine r1.trans ?_
     by_cases k1 : y1 / 64 = 2
     rotate_left
     ·rw [if_neg k1]
      exact (D1 _ _ _ _).trans (fails (by unfold Lib.decodeN; rw [if_neg c1, if_neg (by omega), if_neg (by omega), if_neg (by omega)]))
     rw [if_pos k1]
     have r2 := Ii (q + 4 + 1) (fun x H => Aw Ag E0.tp 282 H x) [] s (q + 3) i 2 ((x % 16) * 64 + y1 % 64) 2 2048 (by omega) (by omega) (by omega) (by omega) hs
     rw [hy2] at r2
     refine r2.trans ?_
     by_cases k2 : y2 / 64 = 2
     rotate_left
     ·rw [if_neg k2]
      exact (D1 _ _ _ _).trans (fails (by unfold Lib.decodeN; rw [if_neg c1, if_neg (by omega), if_neg (by omega), if_neg (by omega)]))
     rw [if_pos k2]
     refine (Sn (q + 4 + 1) (fun x H => Aw Ag E0.tp 282 H x) [] s (q + 4) rfl (q + 2) i 2 (((x % 16) * 64 + y1 % 64) * 64 + y2 % 64) 2048 (by omega) (by omega) (by omega)).trans ?_
     have hv : ((x % 16) * 64 + y1 % 64) * 64 + y2 % 64 = x % 16 * 4096 + y1 % 64 * 64 + y2 % 64 := by omega
     rw [hv]
     split
     ·exact (D1 _ _ _ _).trans (goes _ 3 (by unfold Lib.decodeN; rw [if_neg c1, if_neg (by omega), if_pos (by omega), if_pos (by omega)]) (by omega))
     ·exact (D1 _ _ _ _).trans (fails (by unfold Lib.decodeN; rw [if_neg c1, if_neg (by omega), if_pos (by omega), if_neg (by omega)]))
    ·refine Hh (by simp; omega) ?_
     exact (D1 _ _ _ _).trans (fails (by unfold Lib.decodeN; rw [if_neg c1, if_neg (by omega), if_neg (by omega), if_neg (by omega)]))
   ·refine Hz (by rw [hb1]; simp; omega) ?_
    apply Az (decide ((x : Int) ≥ 240) && decide ((x : Int) < 248))
    ·intro b hb
     refine Bk (v := .sc (.bool (decide ((x : Int) ≥ 240)))) (fun k => rfl) ?_
     refine Ae (decide ((x : Int) ≥ 240)) (fun h => ?_) (fun h => ?_)
     ·refine Al h ?_
      refine Al h ?_
      refine Bk (v := .sc (.bool (decide ((x : Int) < 248)))) (fun k => rfl) ?_
      refine Bv h (Gm hb h) ?_
      exact rfl
     ·refine Am h ?_
      refine Am h ?_
      refine Bu h (Gl hb h) ?_
      exact rfl
    intro b2 hb2
    by_cases d2 : 240 ≤ x ∧ x < 248
    ·refine Hh (by rw [hb2]; simp; omega) ?_
     refine Bk (v := .sc (.int .i64 ((x % 8 : Nat) : Int))) (fun k => by show k (.sc (.int .i64 (bits .and .i64 (x : Int) 7))) = _; rw [Akc ⟨x, hxl⟩]) ?_
     refine Et ?_
     refine Bk (v := .sc (.int .i64 ((s.size : Int) - 1))) (fun k => Ms _ _ _ (by omega) (by omega)) ?_
     refine Bk (v := .sc (.int .i64 ((s.size : Int) - 1 - 3))) (fun k => Ms _ _ _ (by omega) (by omega)) ?_
     refine Bk (v := .sc (.bool (decide ((i : Int) > (s.size : Int) - 1 - 3)))) (fun k => rfl) ?_
     by_cases c3 : i + 3 < s.size
     ·refine Hz (by simp; omega) ?_
      have r1 := Ii (q + 4 + 1) (fun x H => Aw Ag E0.tp 282 H x) [] s (q + 4) i 3 (x % 8) 1 65536 (by omega) (by omega) (by omega) (by omega) hs
      rw [hy1] at r1
      refine r1.trans ?_
      by_cases k1 : y1 / 64 = 2
      rotate_left
      ·rw [if_neg k1]
       exact (D1 _ _ _ _).trans (fails (by unfold Lib.decodeN; rw [if_neg c1, if_neg (by omega), if_neg (by omega), if_neg (by omega)]))
      rw [if_pos k1]
      have r2 := Ii (q + 4 + 1) (fun x H => Aw Ag E0.tp 282 H x) [] s (q + 3) i 3 ((x % 8) * 64 + y1 % 64) 2 65536 (by omega) (by omega) (by omega) (by omega) hs
      rw [hy2] at r2
      refine r2.trans ?_
      by_cases k2 : y2 / 64 = 2
      rotate_left
      ·rw [if_neg k2]
       exact (D1 _ _ _ _).trans (fails (by unfold Lib.decodeN; rw [if_neg c1, if_neg (by omega), if_neg (by omega), if_neg (by omega)]))
      rw [if_pos k2]
      have r3 := Ii (q + 4 + 1) (fun x H => Aw Ag E0.tp 282 H x) [] s (q + 2) i 3 (((x % 8) * 64 + y1 % 64) * 64 + y2 % 64) 3 65536 (by omega) (by omega) (by omega) (by omega) hs
      rw [hy3] at r3
      refine r3.trans ?_
      by_cases k3 : y3 / 64 = 2
      rotate_left
      ·rw [if_neg k3]
       exact (D1 _ _ _ _).trans (fails (by unfold Lib.decodeN; rw [if_neg c1, if_neg (by omega), if_neg (by omega), if_neg (by omega)]))
      rw [if_pos k3]
      refine (Sn (q + 4 + 1) (fun x H => Aw Ag E0.tp 282 H x) [] s (q + 4) rfl (q + 1) i 3 ((((x % 8) * 64 + y1 % 64) * 64 + y2 % 64) * 64 + y3 % 64) 65536 (by omega) (by omega) (by omega)).trans ?_
      have hv : (((x % 8) * 64 + y1 % 64) * 64 + y2 % 64) * 64 + y3 % 64 = x % 8 * 262144 + y1 % 64 * 4096 + y2 % 64 * 64 + y3 % 64 := by omega
      rw [hv]
      split
      ·exact (D1 _ _ _ _).trans (goes _ 4 (by unfold Lib.decodeN; rw [if_neg c1, if_neg (by omega), if_neg (by omega), if_pos (by omega), if_pos (by omega)]) (by omega))
      ·exact (D1 _ _ _ _).trans (fails (by unfold Lib.decodeN; rw [if_neg c1, if_neg (by omega), if_neg (by omega), if_pos (by omega), if_neg (by omega)]))
     ·refine Hh (by simp; omega) ?_
      exact (D1 _ _ _ _).trans (fails (by unfold Lib.decodeN; rw [if_neg c1, if_neg (by omega), if_neg (by omega), if_neg (by omega)]))
    ·refine Hz (by rw [hb2]; simp; omega) ?_
     exact (D1 _ _ _ _).trans (fails (by unfold Lib.decodeN; rw [if_neg c1, if_neg (by omega), if_neg (by omega), if_neg (by omega)]))
theorem To (N ty : Nat) (a b c : Value) : A2 Ag E0.tp N ty (.tup [.sc a, .sc b, .sc c]) = (.tup [.sc a, .sc b, .sc c], []) := rfl
theorem Adb (s : ByteArray) : Vw [⟨Bm s, true, false⟩] (.sl 0 0 s.size 1) (As s) := fun X => by
 have e2 : An ([⟨Bm s, true, false⟩] ++ X) 0 0 (s.size * 1) = some (Bm s) := by
  have hl := Fi s
  show (if (0 + s.size * 1 ≤ (Bm s).length) then some (((Bm s).drop 0).take (s.size * 1)) else none) = _
  rw [if_pos (by omega), List.drop_zero, Nat.mul_one, ← hl, List.take_length]
 rw [O1, e2, Option.bind_some]
 have e3 : (Bm s).mapM (B8 ([⟨Bm s, true, false⟩] ++ X) 7) = some (Bm s) := by
  rw [Io]
  exact AaP _
 rw [e3]
 rfl
theorem Kw {vs : List AV} {i : Nat} {x : AV} {K : AV → Option AV} {r : Option AV} (hx : vs[i]? = some x) (h : K x = r) : Sh (.tup vs) i (fun t => K t) = r := by
 show (vs[i]?).bind _ = r
 rw [hx]
 exact h
theorem Q3 (n : Nat) (hn : 1048576 < n) (k : AV → Ab → Option AV) (s : ByteArray) (hs : s.size ≤ 60) : ∀ (b m pos c : Nat), s.size ≤ pos + b → pos ≤ s.size → c ≤ pos → b < m →
  ∃ r : Int, L6 (PR (n + 2) AV) (n + 2) k m (.sl 0 0 s.size 1) (.sc (.int .i64 c)) (.sc (.int .i64 pos)) [⟨Bm s, true, false⟩] = k (.sc (.int .i64 r)) [⟨Bm s, true, false⟩] ∧ (Lv b (s.data.toList.drop pos) = true → 0 ≤ r) ∧ (Lv b (s.data.toList.drop pos) = false → r = -1)
 | b, m + 1, pos, c, hb, hp, hc, hm => by
  rw [L6]
  simp only [B7, Bg, A9, Z9, D7, Br, B4]
  have hlen : ∀ k : AV → Option AV, Gn (.sl 0 0 s.size 1) k = k (.sc (.int .i64 s.size)) := fun _ => rfl
  rw [hlen, Ct, Bl]
  by_cases hlt : pos < s.size
  ·rw [if_pos (by simpa using hlt)]
   obtain ⟨b, rfl⟩ : ∃ b', b = b' + 1 := ⟨b - 1, by omega⟩
   have hne : s.data.toList.drop pos ≠ [] := by
    intro h
    have := congrArg List.length h
    simp at this
    omega
   have hw := Lib.decodeL_width (s.data.toList.drop pos)
   have hle := Lib.decodeL_le (s.data.toList.drop pos) hne
   have hll : (s.data.toList.drop pos).length = s.size - pos := by simp
   rw [hll] at hle
   rw [Lv, if_neg hne]
   generalize hd : Lib.decodeL (s.data.toList.drop pos) = d at hw hle ⊢
   have ht := Ah6 n hn s pos (by omega) hlt
   rw [hd] at ht
   rw [Dd (vs := [As s, .sc (.int .i64 pos)]) rfl (A8 (Adb s) (A8 (Cr _ _) Dc)) ht]
   by_cases hf : d.1 = 65533 ∧ d.2 = 1
   ·rw [Pj, if_pos hf, To, List.append_nil, if_pos hf]
    refine ⟨-1, ?_, (fun h => by cases h), (fun _ => rfl)⟩
    refine Kw rfl ?_
    refine Kw rfl ?_
    refine Kw rfl ?_
    refine Jj ?_
    refine C8 rfl ?_
    refine C8 rfl ?_
    refine AcV rfl ?_
    refine Hh rfl ?_
    rfl
   ·rw [Pj, if_neg hf, To, List.append_nil, if_neg hf]
    by_cases hz : d.1 = 0
    ·rw [if_pos hz]
     refine ⟨-1, ?_, (fun h => by cases h), (fun _ => rfl)⟩
     refine Kw rfl ?_
     refine Kw rfl ?_
     refine Kw rfl ?_
     refine Jj ?_
     refine C3 rfl ?_
     refine C3 rfl ?_
     refine Bk (v := .sc (.bool ((d.1 : Int) == 0))) (fun k => rfl) ?_
     refine Z5 rfl ?_
     refine Hh (by simp [hz]) ?_
     rfl
    ·rw [if_neg hz, List.drop_drop]
     obtain ⟨r, h1, h2, h3⟩ := Q3 n hn k s hs b m (pos + d.2) (c + 1) (by omega) (by omega) (by omega) (by omega)
     refine ⟨r, ?_, h2, h3⟩
     refine Kw rfl ?_
     refine Kw rfl ?_
     refine Kw rfl ?_
     refine Jj ?_
     refine C3 rfl ?_
     refine C3 rfl ?_
     refine Bk (v := .sc (.bool ((d.1 : Int) == 0))) (fun k => rfl) ?_
     refine Z5 rfl ?_
     refine Hz (by simp; omega) ?_
     rw [Dt _ _ (by omega)]
     exact h1
  ·rw [if_neg (by simpa using hlt)]
   have hnil : s.data.toList.drop pos = [] := by
    apply List.drop_of_length_le
    simp
    omega
   refine ⟨c, rfl, fun _ => by omega, fun h => ?_⟩
   rw [hnil] at h
   cases b <;> simp [Lv] at h
theorem AiQ (n : Nat) (hn : 1048576 < n) (ty : Nat) (s : ByteArray) : ∃ r : Int, Bt E0 (n + 3) ty 231 [.sc (.string s)] = some (.sc (.int .i64 r)) ∧ (Fd s = true → 0 ≤ r) ∧ (Fd s = false → r = -1) := by
 rw [Ax, AgA, f231]
 simp only [Cs, Bg, A9, AfI]
 unfold Fd
 by_cases h : s.size ≤ 60
 ·obtain ⟨r, h1, h2, h3⟩ := Q3 n hn (fun x H => Aw Ag E0.tp ty H x) s h s.size (n + 2) 0 0 (by omega) (by omega) (by omega) (by omega)
  refine ⟨r, ?_, ?_, ?_⟩
  ·refine AfD ?_
   refine Bk (v := .sc (.bool (decide ((s.size : Int) > 60)))) (fun k => rfl) ?_
   refine Hz (by simp; omega) ?_
   simp only [Wu, asS, Option.bind_some]
   rw [if_pos (by omega)]
   exact h1
  ·intro hv
   refine h2 ?_
   simpa [h] using hv
  ·intro hv
   refine h3 ?_
   simpa [h] using hv
 ·refine ⟨-1, ?_, (fun hv => by simp [h] at hv), (fun _ => rfl)⟩
  refine AfD ?_
  refine Bk (v := .sc (.bool (decide ((s.size : Int) > 60)))) (fun k => rfl) ?_
  refine Hh (by simp; omega) ?_
  rfl
theorem AcM (n : Nat) (hn : 1048576 < n) (ty : Nat) (s : ByteArray) : Bt E0 (n + 4) ty 137 [.sc (.string s)] = some (.sc (.bool (Fd s))) := by
 rw [Ax, Agc, f137]
 simp only [Bg]
 obtain ⟨r, h1, h2, h3⟩ := AiQ n hn 3 s
 refine Dv rfl (A8 (Cr _ _) Dc) h1 ?_
 refine Bk (v := .sc (.bool (decide (r ≥ 0)))) (fun k => rfl) ?_
 refine Es ?_
 cases hv : Fd s
 ·rw [h3 hv]
  rfl
 ·simpa using h2 hv
theorem Afe {β : Type} {n : Nat} {H : Ab} {r : Option β} {ty f : Nat} {g : Nat → List AV → Option AV} {args vs : List AV} {v : Value} {K : KO β} (hg : E0.ext f = some g) (hv : args.mapM (B8 H 8) = some vs) (ht : g ty vs = some (.sc v)) (h : K (.sc v) H = r) : (PR n β).call ty (.fn f [] []) args H (fun x H => K x H) = r := by
 rw [AcZ hg hv ht, Dk, List.append_nil]
 exact h
theorem AcB (ty : Nat) (s : ByteArray) (hs : okS s) : Uk ty [.sc (.string s)] = some (.sc (.bool (Fd s))) := by
 have hm : maxLen = 9223372036854775807 := by decide
 show (if s.size ≤ maxLen then _ else _) = _
 rw [hm, if_pos (show s.size ≤ 9223372036854775807 from hs)]
end
section
open Go
section own
variable {ti : Nat → Option TI} {tp : Nat → Option (List Nat)}
theorem F1 {f : Nat → AV → Option (AV × List Nat)} {t : Nat} {ts : List Nat} {x : AV} {xs : List AV} {p : List AV × List Nat} (h : Cq f (t :: ts) (x :: xs) = some p) :
  ∃ a b, f t x = some a ∧ Cq f ts xs = some b ∧ p = (a.1 :: b.1, a.2 ++ b.2) := by
 simp only [Cq, Option.bind_eq_some_iff] at h
 obtain ⟨a, h1, b, h2, h3⟩ := h
 exact ⟨a, b, h1, h2, (Option.some.inj h3).symm⟩
theorem Iv {f : Nat → AV → Option (AV × List Nat)} {ts : List Nat} {p : List AV × List Nat} (h : Cq f ts [] = some p) : ts = [] ∧ p = ([], []) := by
 cases ts with
 | nil => exact ⟨rfl, (Option.some.inj h).symm⟩
 | cons t ts => simp [Cq] at h
theorem Wp {f : Nat → AV → Option (AV × List Nat)} : ∀ {ts : List Nat} {xs : List AV} {p : List AV × List Nat}, Cq f ts xs = some p → ts.length = xs.length ∧ p.1.length = xs.length
 | ts, [], p, h => by
  obtain ⟨rfl, rfl⟩ := Iv h
  exact ⟨rfl, rfl⟩
 | [], _ :: _, p, h => by simp [Cq] at h
 | t :: ts, x :: xs, p, h => by
  obtain ⟨a, b, h1, h2, rfl⟩ := F1 h
  obtain ⟨e1, e2⟩ := Wp h2
  simp [e1, e2]
theorem Lp {f : Nat → AV → Option (AV × List Nat)} : ∀ {ts us : List Nat} {xs ys : List AV} {p q : List AV × List Nat}, Cq f ts xs = some p → Cq f us ys = some q → Cq f (ts ++ us) (xs ++ ys) = some (p.1 ++ q.1, p.2 ++ q.2)
 | ts, us, [], ys, p, q, h, h' => by
  obtain ⟨rfl, rfl⟩ := Iv h
  exact h'
 | [], _, _ :: _, _, _, _, h, _ => by simp [Cq] at h
 | t :: ts, us, x :: xs, ys, p, q, h, h' => by
  obtain ⟨a, b, h1, h2, rfl⟩ := F1 h
  have ih := Lp h2 h'
  rw [List.cons_append, List.cons_append, Cq, h1, Option.bind_some, ih]
  simp
theorem Ga {f f' : Nat → AV → Option (AV × List Nat)} : ∀ {ts : List Nat} {xs : List AV} {p : List AV × List Nat}, (∀ t x a, f t x = some a → (∀ i ∈ a.2, i ∈ p.2) → f' t x = some a) → Cq f ts xs = some p → Cq f' ts xs = some p
 | ts, [], p, _, h => by
  obtain ⟨rfl, rfl⟩ := Iv h
  rfl
 | [], _ :: _, p, _, h => by simp [Cq] at h
 | t :: ts, x :: xs, p, hf, h => by
  obtain ⟨a, b, h1, h2, rfl⟩ := F1 h
  have e1 := hf t x a h1 fun i hi => List.mem_append_left _ hi
  have e2 := Ga (f' := f') (fun t x a' h hi => hf t x a' h fun i hi' => List.mem_append_right _ (hi i hi')) h2
  rw [Cq, e1, Option.bind_some, e2]
  rfl
theorem D9 {H H' : Ab} : ∀ (d ty : Nat) (x : AV) (p : AV × List Nat), Cc ti tp H d ty x = some p → (∀ i ∈ p.2, H'[i]? = H[i]?) → Cc ti tp H' d ty x = some p
 | 0, _, _, _, h, _ => by simp [Cc] at h
 | d + 1, ty, x, p, h, hs => by
  cases x with
  | sc v => exact h
  | nl => exact h
  | sl id off n z =>
   rw [Gi] at h ⊢
   simp only [Option.bind_eq_some_iff] at h
   obtain ⟨i, h1, j, h2, h3⟩ := h
   split at h3
   case isFalse => cases h3
   rename_i hz
   split at h3
   case isFalse => cases h3
   rename_i ha
   simp only [Option.bind_eq_some_iff] at h3
   obtain ⟨cs, h4, q, h5, h6⟩ := h3
   obtain rfl := (Option.some.inj h6).symm
   have hid := hs id List.mem_cons_self
   have e1 : F6 H' id = true := by simpa only [F6, hid] using ha
   have e2 : An H' id off (n * z) = some cs := by simpa only [An, hid] using h4
   have e3 := Ga (f' := Cc ti tp H' d) (fun t x a h hi => D9 d t x a h fun i' hi' => hs i' (List.mem_cons_of_mem _ (hi i' hi'))) h5
   simp only [h1, h2, Option.bind_some, hz, if_true, e1, e3]
   rw [hz] at e2
   rw [e2]
   simp only [Option.bind_some, e3]
  | agg cs =>
   rw [Fu] at h ⊢
   simp only [Option.bind_eq_some_iff] at h
   obtain ⟨i, h1, q, h2, h3⟩ := h
   obtain rfl := (Option.some.inj h3).symm
   have e3 := Ga (f' := Cc ti tp H' d) (fun t x a h hi => D9 d t x a h fun i' hi' => hs i' (hi i' hi')) h2
   rw [h1, Option.bind_some, e3]
   rfl
  | tup cs =>
   rw [Hd] at h ⊢
   simp only [Option.bind_eq_some_iff] at h
   obtain ⟨i, h1, q, h2, h3⟩ := h
   obtain rfl := (Option.some.inj h3).symm
   have e3 := Ga (f' := Cc ti tp H' d) (fun t x a h hi => D9 d t x a h fun i' hi' => hs i' (hi i' hi')) h2
   rw [h1, Option.bind_some, e3]
   rfl
  | _ => simp [Cc] at h
theorem Ol {f : Nat → AV → Option (AV × List Nat)} {N : Nat} : ∀ {ts : List Nat} {xs : List AV} {p : List AV × List Nat}, (∀ t x a, f t x = some a → ∀ i ∈ a.2, i < N) → Cq f ts xs = some p → ∀ i ∈ p.2, i < N
 | ts, [], p, _, h => by
  obtain ⟨rfl, rfl⟩ := Iv h
  intro i hi
  cases hi
 | [], _ :: _, p, _, h => by simp [Cq] at h
 | t :: ts, x :: xs, p, hf, h => by
  obtain ⟨a, b, h1, h2, rfl⟩ := F1 h
  intro i hi
  rcases List.mem_append.1 hi with hi | hi
  ·exact hf t x a h1 i hi
  ·exact Ol hf h2 i hi
theorem Kq {H : Ab} : ∀ (d ty : Nat) (x : AV) (p : AV × List Nat), Cc ti tp H d ty x = some p → ∀ i ∈ p.2, i < H.length
 | 0, _, _, _, h => by simp [Cc] at h
 | d + 1, ty, x, p, h => by
  cases x with
  | sc v =>
   obtain rfl := (Option.some.inj h).symm
   intro i hi
   cases hi
  | nl =>
   obtain rfl := (Option.some.inj h).symm
   intro i hi
   cases hi
  | sl id off n z =>
   rw [Gi] at h
   simp only [Option.bind_eq_some_iff] at h
   obtain ⟨i, h1, j, h2, h3⟩ := h
   split at h3
   case isFalse => cases h3
   split at h3
   case isFalse => cases h3
   rename_i ha
   simp only [Option.bind_eq_some_iff] at h3
   obtain ⟨cs, h4, q, h5, h6⟩ := h3
   obtain rfl := (Option.some.inj h6).symm
   intro i' hi'
   rcases List.mem_cons.1 hi' with rfl | hi'
   ·unfold F6 at ha
    cases hg : H[i']? with
    | none => rw [hg] at ha; cases ha
    | some b => exact (List.getElem?_eq_some_iff.1 hg).1
   ·exact Ol (fun t x a h => Kq d t x a h) h5 i' hi'
  | agg cs =>
   rw [Fu] at h
   simp only [Option.bind_eq_some_iff] at h
   obtain ⟨i, h1, q, h2, h3⟩ := h
   obtain rfl := (Option.some.inj h3).symm
   exact Ol (fun t x a h => Kq d t x a h) h2
  | tup cs =>
   rw [Hd] at h
   simp only [Option.bind_eq_some_iff] at h
   obtain ⟨i, h1, q, h2, h3⟩ := h
   obtain rfl := (Option.some.inj h3).symm
   exact Ol (fun t x a h => Kq d t x a h) h2
  | _ => simp [Cc] at h
end own
def OwnC (d : Nat) (H : Ab) (ts : List Nat) (raw cells : List AV) (ids : List Nat) : Prop := Cq (Cc Ag E0.tp H d) ts raw = some (cells, ids)
theorem OwnC.frame {d : Nat} {H H' : Ab} {ts : List Nat} {raw cells : List AV} {ids : List Nat} (h : OwnC d H ts raw cells ids) (hs : ∀ i ∈ ids, H'[i]? = H[i]?) : OwnC d H' ts raw cells ids :=
 Ga (fun t x a h hi => D9 d t x a h fun i hi' => hs i (hi i hi')) h
theorem OwnC.lt {d : Nat} {H : Ab} {ts : List Nat} {raw cells : List AV} {ids : List Nat} (h : OwnC d H ts raw cells ids) : ∀ i ∈ ids, i < H.length := Ol (fun t x a h => Kq d t x a h) h
theorem OwnC.grow {d : Nat} {H : Ab} {ts : List Nat} {raw cells : List AV} {ids : List Nat} (h : OwnC d H ts raw cells ids) (X : List Fz) : OwnC d (H ++ X) ts raw cells ids :=
 h.frame fun i hi => List.getElem?_append_left (h.lt i hi)
theorem OwnC.append {d : Nat} {H : Ab} {ts us : List Nat} {raw raw' cells cells' : List AV} {ids ids' : List Nat} (h : OwnC d H ts raw cells ids) (h' : OwnC d H us raw' cells' ids') : OwnC d H (ts ++ us) (raw ++ raw') (cells ++ cells') (ids ++ ids') := Lp h h'
theorem OwnC.len {d : Nat} {H : Ab} {ts : List Nat} {raw cells : List AV} {ids : List Nat} (h : OwnC d H ts raw cells ids) : ts.length = raw.length ∧ cells.length = raw.length := Wp h
def OwnS (d : Nat) (H : Ab) (w : Nat) (cty : List Nat) (x : AV) (k : Nat) (cells : List AV) : Prop :=
 (x = .nl ∧ k = 0 ∧ cells = []) ∨ ∃ id raw ids, x = .sl id 0 k w ∧ H[id]? = some ⟨raw, true, true⟩ ∧ raw.length = k * w ∧ OwnC d H (List.replicate k cty).flatten raw cells ids ∧ (id :: ids).Nodup
theorem OwnS.nil (d : Nat) (H : Ab) (w : Nat) (cty : List Nat) : OwnS d H w cty .nl 0 [] := .inl ⟨rfl, rfl, rfl⟩
theorem OwnS.grow {d : Nat} {H : Ab} {w : Nat} {cty : List Nat} {x : AV} {k : Nat} {cells : List AV} (h : OwnS d H w cty x k cells) (X : List Fz) : OwnS d (H ++ X) w cty x k cells := by
 rcases h with h | ⟨id, raw, ids, h1, h2, h3, h4, h5⟩
 ·exact .inl h
 ·exact .inr ⟨id, raw, ids, h1, by rw [List.getElem?_append_left (List.getElem?_eq_some_iff.1 h2).1]; exact h2, h3, h4.grow X, h5⟩
variable {β : Type} {n : Nat} {r : Option β}
theorem Zs (A : Ab) (b b' : Fz) (R : Ab) : (A ++ b :: R).set A.length b' = A ++ b' :: R := by
 rw [List.set_append_right _ _ (Nat.le_refl _), Nat.sub_self]
 rfl
theorem Jn (A : Ab) (b : Fz) (R : Ab) : (A ++ b :: R)[A.length]? = some b := by
 rw [List.getElem?_append_right (Nat.le_refl _), Nat.sub_self]
 rfl
theorem Aad {d : Nat} {H X : Ab} {w bytes : Nat} {cty : List Nat} {x : AV} {k : Nat} {cells er ec : List AV} {eids : List Nat} {K : KO β} (hx : OwnS d H w cty x k cells) (hw : er.length = w) (hl : er.all A4 = true)
  (he : OwnC d (H ++ X) cty er ec eids) (hn : eids.Nodup) (hge : ∀ i ∈ eids, H.length ≤ i) (hb : (k + 1) * bytes ≤ 140737488355328)
  (h : ∀ x' H', OwnS d H' w cty x' (k + 1) (cells ++ ec) → K x' H' = r) :
  D2 1 w er true (H ++ X) (fun y G => K3 w bytes x y G K) = r := by
 have hy : ∀ G : Ab, Cf (G ++ [⟨er, true, true⟩]) w (.sl G.length 0 1 w) = some er := by
  intro G
  simp only [Cf, if_true, Nat.one_mul, An, Jn G _ [], Nat.zero_add, hw, Nat.le_refl, List.drop_zero]
  rw [← hw, List.take_length]
 have hell : (H ++ X).length ∉ eids := fun hm => Nat.lt_irrefl _ (he.lt _ hm)
 rcases hx with ⟨rfl, rfl, rfl⟩ | ⟨id, raw, ids, rfl, h2, h3, h4, h5⟩
 ·simp only [D2, K3, G4, Option.bind_some, hy]
  rw [show Cf (H ++ X ++ [⟨er, true, true⟩]) w .nl = some [] from rfl]
  simp only [Option.bind_some, Li]
  rw [if_pos hb, if_pos hl]
  refine h _ _ (.inr ⟨_, er, eids, rfl, ?_, by simp [hw], ?_, ?_⟩)
  ·rw [List.getElem?_append_right (Nat.le_refl _), Nat.sub_self]
   rfl
  ·simp only [Nat.zero_add, List.replicate_one, List.flatten_cons, List.flatten_nil, List.append_nil, List.nil_append]
   exact (he.grow _).grow _
  ·rw [List.nodup_cons]
   refine ⟨fun hm => ?_, hn⟩
   have := he.lt _ hm
   simp at this
   omega
 ·have hid : id < H.length := (List.getElem?_eq_some_iff.1 h2).1
  have hg : (H ++ X ++ [(⟨er, true, true⟩ : Fz)])[id]? = some ⟨raw, true, true⟩ := by
   rw [List.append_assoc, List.getElem?_append_left hid]
   exact h2
  have hcx : Cf (H ++ X ++ [⟨er, true, true⟩]) w (.sl id 0 k w) = some raw := by
   simp only [Cf, if_true, An, hg, Nat.zero_add, h3, Nat.le_refl, List.drop_zero]
   rw [← h3, List.take_length]
  simp only [D2, K3, G4, Option.bind_some, hy, hcx, Li, hg, if_true]
  rw [if_pos hb, if_pos hl]
  have hn5 := List.nodup_cons.1 h5
  have hne : ∀ i ∈ ids, i ≠ id := fun i hi e => hn5.1 (e ▸ hi)
  have hne2 : ∀ i ∈ eids, i ≠ id := fun i hi e => by
   have := hge i hi
   omega
  refine h _ _ (.inr ⟨_, raw ++ er, ids ++ eids, rfl, ?_, by simp [h3, hw, Nat.succ_mul], ?_, ?_⟩)
  ·rw [List.getElem?_append_right (Nat.le_refl _), Nat.sub_self]
   rfl
  ·have e : (List.replicate (k + 1) cty).flatten = (List.replicate k cty).flatten ++ cty := by
    rw [List.replicate_succ', List.flatten_append]
    simp
   rw [e]
   refine OwnC.append ?_ ?_
   ·refine OwnC.grow (OwnC.frame (H := H ++ X ++ [⟨er, true, true⟩]) ((h4.grow X).grow _) fun i hi => ?_) _
    rw [List.getElem?_set_ne (fun e => hne i hi e.symm)]
   ·refine OwnC.grow (OwnC.frame (H := H ++ X ++ [⟨er, true, true⟩]) (he.grow _) fun i hi => ?_) _
    rw [List.getElem?_set_ne (fun e => hne2 i hi e.symm)]
  ·rw [List.nodup_cons]
   refine ⟨fun hm => ?_, ?_⟩
   ·rcases List.mem_append.1 hm with hm | hm
    ·have := h4.lt _ hm
     simp at this
     omega
    ·have := he.lt _ hm
     simp at this
     omega
   ·rw [List.nodup_append]
    refine ⟨hn5.2, hn, fun a ha b hb e => ?_⟩
    have h1 := h4.lt a ha
    have h2 := hge b hb
    omega
theorem AaU {d : Nat} {H : Ab} {ts : List Nat} {cs : List AV} (h : Ed (F7 Ag E0.tp d) ts cs) : OwnC d (H ++ (Aj Ag E0.tp H.length ts cs).2) ts (Aj Ag E0.tp H.length ts cs).1 cs (List.range' H.length (Aj Ag E0.tp H.length ts cs).2.length) :=
 Mi (fun ty t N h h' _ => Iw d ty t N h h') ts cs H.length h (Js _ _) (Fn _ _ _)
theorem U4 {d : Nat} {H : Ab} {w tyS k : Nat} {cty : List Nat} {x : AV} {cells : List AV} (hty : ∃ i j, Ag tyS = some i ∧ Ag i.elem = some j ∧ j.size = w ∧ j.cty = cty) (h : OwnS d H w cty x k cells) : ∃ ids, Cc Ag E0.tp H (d + 1) tyS x = some (.ro k cells, ids) ∧ ids.Nodup := by
 rcases h with ⟨rfl, rfl, rfl⟩ | ⟨id, raw, ids, rfl, h2, h3, h4, h5⟩
 ·exact ⟨[], rfl, List.nodup_nil⟩
 ·obtain ⟨i, j, e1, e2, rfl, rfl⟩ := hty
  refine ⟨id :: ids, ?_, h5⟩
  rw [Gi]
  have ha : F6 H id = true := by simp only [F6, h2]
  have hr : An H id 0 (k * j.size) = some raw := by
   simp only [An, h2, if_true, Nat.zero_add, h3, Nat.le_refl, List.drop_zero]
   rw [← h3, List.take_length]
  have h4' : Cq (Cc Ag E0.tp H d) (List.replicate k j.cty).flatten raw = some (cells, ids) := h4
  simp only [e1, e2, Option.bind_some, if_true, ha, hr, h4']
end
section
open Go
def Er (s : ByteArray) : Bool := Fd s && !(s.toList == (⟨#[]⟩ : ByteArray).toList) && !(O0 s 43) && !(O0 s 35) && decide (((Dw s).length : Int) ≤ 6)
section
variable {β : Type} {n : Nat} {H : Ab} {r : Option β}
theorem AaO {ty f len : Nat} {args vs cells : List AV} {K : KO β} (hh : Cw f = false) (hv : args.mapM (B8 H 8) = some vs) (ht : Bt E0 n ty f vs = some (.ro len cells)) (h : ∀ N X sz, K (.sl N 0 len sz) (H ++ X) = r) : (PR n β).call ty (.fn f [] []) args H (fun x H => K x H) = r := by
 rw [Dd hh hv ht]
 exact h _ _ _
theorem AfB {b b' : Bool} (h : b = b') : some (AV.sc (.bool b)) = some (AV.sc (.bool b')) := by rw [h]
theorem Ji {α : Type} {w : Nat} {enc : α → List AV} {l pre t : List α} {x : α} {K : AV → Option β} (hw : ∀ x, (enc x).length = w) (h0 : 0 < w) (hl : l = pre ++ x :: t) (h : K (.rp (enc x ++ (t.map enc).flatten)) = r) : Cg w (At enc l) (.sc (.int .i64 (pre.length : Int))) (fun t => K t) = r := by
 subst hl
 exact (La (β := β) hw h0 pre x t (fun t => K t)).trans h
theorem AfC {id off m w : Nat} {K : AV → Option β} (h : K (.sc (.int .i64 m)) = r) : Gn (.sl id off m w) (fun t => K t) = r := h
end
section has
variable (n : Nat) (k : AV → Ab → Option AV) (H : Ab)
theorem Wb (s : ByteArray) (b : UInt8) (hs : s.size ≤ 1048576) : ∀ (r pre : List UInt8) (m : Nat), s.data.toList = pre ++ r → r.length < m →
  Kj (PR n AV) n k m (.sc (.string s)) (.sc (.int .u8 b.toNat)) (.sc (.int .i64 pre.length)) H = k (.sc (.bool (r.any fun c => c == b))) H
 | [], pre, m + 1, hl, hm => by
  have h1 : s.size = pre.length := by
   have := congrArg List.length hl
   simpa using this
  rw [Kj]
  simp only [Cs, Bg, A9]
  rw [R2, Ct, h1, Bl, if_neg (by simp)]
  rfl
 | c :: r, pre, m + 1, hl, hm => by
  have h1 : s.size = pre.length + r.length + 1 := by
   have := congrArg List.length hl
   simpa [Nat.add_assoc] using this
  rw [Kj]
  simp only [Cs, Bg, A9, Eg]
  rw [R2, Ct, Bl, if_pos (by simp; omega), Ait s pre.length c _ (by rw [hl]; simp)]
  have he : ∀ K : AV → Option AV, Bn .eql (.sc (.int .u8 (c.toNat : Int))) (.sc (.int .u8 (b.toNat : Int))) K = K (.sc (.bool (c == b))) := by
   intro K
   show K (.sc (.bool ((c.toNat : Int) == (b.toNat : Int)))) = _
   congr 3
   rw [Bool.eq_iff_iff, beq_iff_eq, beq_iff_eq, Int.ofNat_inj, UInt8.toNat_inj]
  rw [he, Bl, List.any_cons]
  cases hcb : (c == b)
  ·rw [if_neg (by simp), Dt _ _ (by omega)]
   have ih := Wb s b hs r (pre ++ [c]) m (by rw [hl]; simp) (by simpa using hm)
   rw [List.length_append, List.length_singleton] at ih
   rw [ih]
   rfl
  ·rw [if_pos rfl]
   rfl
end has
theorem Ak7 (n : Nat) (hn : 1048576 < n) (ty : Nat) (s : ByteArray) (b : UInt8) (hs : s.size ≤ 1048576) : Bt E0 (n + 1) ty 273 [.sc (.string s), .sc (.int .u8 b.toNat)] = some (.sc (.bool (O0 s b))) := by
 rw [Ax, AgE, f273]
 have key := Wb n (fun x H => Aw Ag E0.tp ty H x) [] s b hs s.data.toList [] n rfl (by simp; omega)
 simp only [List.length_nil, Int.natCast_zero] at key
 rw [key]
 rfl
theorem Ak6 (n : Nat) (hn : 1048576 < n) (ty : Nat) (s : ByteArray) (hs : s.size ≤ 1048576) : Bt E0 (n + 1) ty 273 [.sc (.string s), .sc (.int .u8 43)] = some (.sc (.bool (O0 s 43))) := Ak7 n hn ty s 43 hs
theorem Ak5 (n : Nat) (hn : 1048576 < n) (ty : Nat) (s : ByteArray) (hs : s.size ≤ 1048576) : Bt E0 (n + 1) ty 273 [.sc (.string s), .sc (.int .u8 35)] = some (.sc (.bool (O0 s 35))) := Ak7 n hn ty s 35 hs
theorem AhD : ∃ i j, Ag 33 = some i ∧ Ag i.elem = some j ∧ j.size = 1 ∧ j.cty = [i.elem] := ⟨_, _, rfl, rfl, rfl, rfl⟩
def AhC (l : List UInt8) : AV := .sc (.string (ofL l))
theorem Wk (s : ByteArray) (P cur r : List UInt8) (h : s.data.toList = P ++ (cur ++ r)) : s.extract P.length (P.length + cur.length) = ofL cur := by
 have : (s.extract P.length (P.length + cur.length)).data.toList = cur := by
  rw [ByteArray.data_extract, Array.toList_extract, List.extract, h]
  rw [List.drop_append_of_le_length (Nat.le_refl _), List.drop_length, List.nil_append, Nat.add_sub_cancel_left, List.take_append_of_le_length (Nat.le_refl _), List.take_length]
 rw [← Wj (s.extract _ _), this]
theorem Tr {H : Ab} {x : AV} {cnt : Nat} {cells : List AV} {K : AV → Ab → Option AV} {r : Option AV} (s : ByteArray) (P cur rest : List UInt8) (hl : s.data.toList = P ++ (cur ++ rest)) (hs : s.size ≤ 1048576) (hx : OwnS 7 H 1 [9] x cnt cells) (hc : cnt ≤ 1048577)
  (h : ∀ x' H', OwnS 7 H' 1 [9] x' (cnt + 1) (cells ++ [AhC cur]) → K x' H' = r) :
  (Or (.sc (.string s)) (some (.sc (.int .i64 P.length))) (some (.sc (.int .i64 ((P.length + cur.length : Nat) : Int)))) fun t27 => (Ez [(.sc (.string ⟨#[]⟩))] [(0, 1, t27)]).bind fun ct28 => D2 1 1 ct28 true H fun t28 H => K3 1 16 x t28 H K) = r := by
 have hsz : P.length + cur.length ≤ s.size := by
  have := congrArg List.length hl
  simp at this
  omega
 simp only [Or, asS, I8, Xi, Option.bind_some]
 rw [if_pos (by omega)]
 simp only [Int.toNat_natCast]
 rw [Wk s P cur rest hl]
 have hf : Ez [(.sc (.string ⟨#[]⟩))] [(0, 1, .sc (.string (ofL cur)))] = some [.sc (.string (ofL cur))] := rfl
 rw [hf, Option.bind_some]
 have key := Aad (H := H) (X := []) (bytes := 16) (er := [.sc (.string (ofL cur))]) (ec := [AhC cur]) (eids := []) (K := K) (r := r) hx rfl rfl rfl List.nodup_nil (fun i hi => by cases hi) (by omega) h
 rw [List.append_nil] at key
 exact key
theorem R3 (n : Nat) (s : ByteArray) (hs : s.size ≤ 1048576) : ∀ (r P cur : List UInt8) (m : Nat) (x : AV) (H : Ab) (cnt : Nat) (cells : List AV), s.data.toList = P ++ (cur ++ r) → r.length + 1 < m → OwnS 7 H 1 [9] x cnt cells → cnt ≤ P.length →
  H8 (PR n AV) n (fun x H => Aw Ag E0.tp 33 H x) m (.sc (.string s)) x (.sc (.int .i64 P.length)) (.sc (.int .i64 ((P.length + cur.length : Nat) : Int))) H = some (.ro (cnt + (lvL cur r).length) (cells ++ (lvL cur r).map AhC))
 | [], P, cur, m + 2, x, H, cnt, cells, hl, hm, hx, hc => by
  have h1 : s.size = P.length + cur.length := by
   have := congrArg List.length hl
   simpa using this
  rw [H8]
  simp only [Cs, Bg, A9, Br, B4, Cn, B3, Cj, De, Eg]
  rw [R2, Tq, Bl, if_pos (by simp; omega), R2, Adr]
  have he : (((P.length + cur.length : Nat) : Int) == (s.size : Int)) = true := by simp; omega
  refine C8 he ?_
  refine C8 he ?_
  refine C8 he ?_
  refine C8 he ?_
  refine AcV he ?_
  refine Hh rfl ?_
  refine Tr s P cur [] hl hs hx (by omega) fun x' H' hx' => ?_
  rw [Dt _ _ (by omega), Dt _ _ (by omega)]
  rw [H8]
  simp only [Cs, Bg, A9]
  rw [R2, Tq, Bl, if_neg (by simp; omega)]
  obtain ⟨i, j, e1, e2, e3, e4⟩ := AhD
  obtain ⟨ids, ho, hno⟩ := U4 (d := 7) (tyS := 33) (w := 1) (cty := [9]) ⟨_, _, rfl, rfl, rfl, rfl⟩ hx'
  rw [Aw, ho, Option.bind_some, if_pos hno]
  rfl
 | c :: r, P, cur, m + 1, x, H, cnt, cells, hl, hm, hx, hc => by
  have h1 : s.size = P.length + cur.length + r.length + 1 := by
   have := congrArg List.length hl
   simp at this
   omega
  have hidx : s.data.toList[P.length + cur.length]? = some c := by
   rw [hl, ← List.append_assoc, ← List.length_append, List.getElem?_append_right (Nat.le_refl _), Nat.sub_self]
   rfl
  rw [H8]
  simp only [Cs, Bg, A9, Br, B4, Cn, B3, Cj, De, Eg]
  rw [R2, Tq, Bl, if_pos (by simp; omega), R2, Adr]
  have he : (((P.length + cur.length : Nat) : Int) == (s.size : Int)) = false := by simp; omega
  refine C3 he ?_
  refine C3 he ?_
  refine C3 he ?_
  rw [Ait s (P.length + cur.length) c _ hidx]
  refine C3 he ?_
  refine Bk (v := .sc (.bool (c == 47))) (fun K => ?_) ?_
  ·show K (.sc (.bool ((c.toNat : Int) == (47 : Int)))) = _
   congr 3
   rw [Bool.eq_iff_iff, beq_iff_eq, beq_iff_eq, show (47 : Int) = (((47 : UInt8).toNat : Nat) : Int) from rfl, Int.ofNat_inj, UInt8.toNat_inj]
  refine Z5 he ?_
  rw [lvL]
  by_cases h47 : c = 47
  ·refine Hh (by simp [h47]) ?_
   refine Tr s P cur (c :: r) hl hs hx (by omega) fun x' H' hx' => ?_
   rw [Dt _ _ (by omega), Dt _ _ (by omega), if_pos h47]
   have ih := R3 n s hs r (P ++ cur ++ [c]) [] m x' H' (cnt + 1) (cells ++ [AhC cur]) (by rw [hl]; simp) (by simpa using hm) hx' (by simp; omega)
   simp only [List.length_append, List.length_nil, List.length_singleton, Nat.add_zero] at ih
   rw [ih]
   simp [Nat.add_assoc, Nat.add_comm]
  ·refine Hz (by simpa using h47) ?_
   rw [Dt _ _ (by omega), if_neg h47]
   have ih := R3 n s hs r P (cur ++ [c]) m x H cnt cells (by rw [hl]; simp) (by simpa using hm) hx hc
   rw [List.length_append, List.length_singleton, ← Nat.add_assoc] at ih
   exact ih
theorem W3 (n : Nat) (hn : 1048577 < n) (s : ByteArray) (hs : s.size ≤ 1048576) : Bt E0 (n + 1) 33 274 [.sc (.string s)] = some (.ro (Dw s).length ((Dw s).map fun x => .sc (.string x))) := by
 rw [Ax, AgF, f274]
 have key := R3 n s hs s.data.toList [] [] n .nl [] 0 [] rfl (by simp; omega) (OwnS.nil _ _ _ _) (by simp)
 simp only [List.length_nil, Int.natCast_zero, Nat.zero_add, List.nil_append] at key
 rw [key, Dw, List.length_map, List.map_map]
 rfl
theorem Wd (n : Nat) (s : ByteArray) (hs : s.size ≤ 1048576) : Bt E0 (n + 1) 33 268 [.sc (.string s)] = some (.ro (Dw s).length ((Dw s).map fun x => .sc (.string x))) := by
 rw [Ax, AgD, f268]
 have hg : O8 33 [.sc (.string s), .sc (.string ⟨#[47]⟩)] = some (.ro (Dw s).length ((Dw s).map fun x => .sc (.string x))) := by
  unfold O8
  exact if_pos ⟨rfl, rfl, by omega⟩
 rw [AcZ (g := O8) rfl (A8 (Cr _ _) (A8 (Cr _ _) Dc)) hg]
 refine U5 [] _ _ ?_
 refine ⟨_, _, rfl, rfl, by simp, ?_⟩
 have := Mg (f := F7 Ag E0.tp 7) (cty := [9]) (enc := fun x : ByteArray => [.sc (.string x)]) (Dw s) (fun x _ => ⟨trivial, trivial⟩)
 rw [N2] at this
 exact this
theorem Abl (ty : Nat) (s : ByteArray) (hs : s.size ≤ 1048576) : Q7 ty [.sc (.string s), .sc (.string ⟨#[43, 35]⟩)] = some (.sc (.bool (vPH s))) := by
 unfold Q7
 exact if_pos ⟨rfl, by omega⟩
end
section
open Go
theorem AjH {s : ByteArray} (h : s.size ≤ 1048576) : okS s := Nat.le_trans h (by decide)
theorem Zv (n : Nat) (hn : 1048576 < n) (ty : Nat) (s : ByteArray) (hs : s.size ≤ 1048576) : Bt E0 (n + 5) ty 223 [.sc (.string s)] = some (.sc (.bool (Er s))) := by
 rw [Ax, Ag9, f223]
 try simp only [B6, Cp, Bj, Bb, Bo, Bg, Cx, Dl, D7, A9, Br, B4, B7, Cs, Ca, Eg, C5, Cn, Cj, B3, Dz, De, Ef, Dq]
 refine Dv rfl (A8 (Cr _ _) Dc) (AcM (n + 0) (by omega) _ s) ?_
 apply Az ((Fd s) && (!(s.toList == (⟨#[]⟩ : ByteArray).toList)))
 ·intro b1 q1
  refine Ae ((Fd s)) (fun h1 => ?_) (fun h1 => ?_)
  ·refine Al h1 ?_
   refine Al h1 ?_
   refine Bk (v := .sc (.bool (!(s.toList == (⟨#[]⟩ : ByteArray).toList)))) (fun k => rfl) ?_
   refine Bv h1 (Gm q1 h1) ?_
   exact rfl
  ·refine Am h1 ?_
   refine Am h1 ?_
   refine Bu h1 (Gl q1 h1) ?_
   exact rfl
 intro b1 q1
 apply Az (b1 && (!(O0 s 43)))
 ·intro b2 q2
  refine Ae (b1) (fun h2 => ?_) (fun h2 => ?_)
  ·refine Al h2 ?_
   refine Al h2 ?_
   refine Dv rfl (A8 (Cr _ _) (A8 (Cr _ _) Dc)) (Ak6 (n + 3) (by omega) _ s hs) ?_
   refine Al h2 ?_
   refine Jj ?_
   refine Bv h2 (Gm q2 h2) ?_
   exact rfl
  ·refine Am h2 ?_
   refine Am h2 ?_
   refine Am h2 ?_
   refine Bu h2 (Gl q2 h2) ?_
   exact rfl
 intro b2 q2
 apply Az (b2 && (!(O0 s 35)))
 ·intro b3 q3
  refine Ae (b2) (fun h3 => ?_) (fun h3 => ?_)
  ·refine Al h3 ?_
   refine Al h3 ?_
   refine Dv rfl (A8 (Cr _ _) (A8 (Cr _ _) Dc)) (Ak5 (n + 3) (by omega) _ s hs) ?_
   refine Al h3 ?_
   refine Jj ?_
   refine Bv h3 (Gm q3 h3) ?_
   exact rfl
  ·refine Am h3 ?_
   refine Am h3 ?_
   refine Am h3 ?_
   refine Bu h3 (Gl q3 h3) ?_
   exact rfl
 intro b3 q3
 apply Az (b3 && (decide (((Dw s).length : Int) ≤ 6)))
 ·intro b4 q4
  refine Ae (b3) (fun h4 => ?_) (fun h4 => ?_)
  ·refine Al h4 ?_
   refine Al h4 ?_
   refine AaO rfl (A8 (Cr _ _) Dc) (W3 (n + 3) (by omega) s hs) fun N5 X5 z5 => ?_
   refine Al h4 ?_
   refine AfC ?_
   refine Al h4 ?_
   refine Bk (v := .sc (.bool (decide (((Dw s).length : Int) ≤ 6)))) (fun k => rfl) ?_
   refine Bv h4 (Gm q4 h4) ?_
   exact rfl
  ·refine Am h4 ?_
   refine Am h4 ?_
   refine Am h4 ?_
   refine Am h4 ?_
   refine Bu h4 (Gl q4 h4) ?_
   exact rfl
 intro b4 q4
 exact AfB (by subst_vars; unfold Er; first | rfl | (unfold vPH; cases Fd s <;> cases O0 s 43 <;> cases O0 s 35 <;> simp))
theorem Y9 (n : Nat) (hn : 1048576 < n) (ty : Nat) (s : ByteArray) (hs : s.size ≤ 1048576) : Bt E0 (n + 5) ty 198 [.sc (.string s)] = some (.sc (.bool (Er s))) := by
 rw [Ax, Agt, f198]
 try simp only [B6, Cp, Bj, Bb, Bo, Bg, Cx, Dl, D7, A9, Br, B4, B7, Cs, Ca, Eg, C5, Cn, Cj, B3, Dz, De, Ef, Dq]
 refine Afe rfl (A8 (Cr _ _) Dc) (AcB _ s (AjH hs)) ?_
 apply Az ((Fd s) && (!(s.toList == (⟨#[]⟩ : ByteArray).toList)))
 ·intro b1 q1
  refine Ae ((Fd s)) (fun h1 => ?_) (fun h1 => ?_)
  ·refine Al h1 ?_
   refine Al h1 ?_
   refine Bk (v := .sc (.bool (!(s.toList == (⟨#[]⟩ : ByteArray).toList)))) (fun k => rfl) ?_
   refine Bv h1 (Gm q1 h1) ?_
   exact rfl
  ·refine Am h1 ?_
   refine Am h1 ?_
   refine Bu h1 (Gl q1 h1) ?_
   exact rfl
 intro b1 q1
 apply Az (b1 && (!(vPH s)))
 ·intro b2 q2
  refine Ae (b1) (fun h2 => ?_) (fun h2 => ?_)
  ·refine Al h2 ?_
   refine Al h2 ?_
   refine Afe rfl (A8 (Cr _ _) (A8 (Cr _ _) Dc)) (Abl _ s hs) ?_
   refine Al h2 ?_
   refine Jj ?_
   refine Bv h2 (Gm q2 h2) ?_
   exact rfl
  ·refine Am h2 ?_
   refine Am h2 ?_
   refine Am h2 ?_
   refine Bu h2 (Gl q2 h2) ?_
   exact rfl
 intro b2 q2
 apply Az (b2 && (decide (((Dw s).length : Int) ≤ 6)))
 ·intro b3 q3
  refine Ae (b2) (fun h3 => ?_) (fun h3 => ?_)
  ·refine Al h3 ?_
   refine Al h3 ?_
   refine AaO rfl (A8 (Cr _ _) Dc) (Wd (n + 3) s hs) fun N4 X4 z4 => ?_
   refine Al h3 ?_
   refine AfC ?_
   refine Al h3 ?_
   refine Bk (v := .sc (.bool (decide (((Dw s).length : Int) ≤ 6)))) (fun k => rfl) ?_
   refine Bv h3 (Gm q3 h3) ?_
   exact rfl
  ·refine Am h3 ?_
   refine Am h3 ?_
   refine Am h3 ?_
   refine Am h3 ?_
   refine Bu h3 (Gl q3 h3) ?_
   exact rfl
 intro b3 q3
 exact AfB (by subst_vars; unfold Er; first | rfl | (unfold vPH; cases Fd s <;> cases O0 s 43 <;> cases O0 s 35 <;> simp))
def C7 (m : Ej) : Bool := Er m.fTopic && decide ((m.fBody.size : Int) ≤ 40) && Gj m.fQos 0 2
theorem Aj6 (n : Nat) (ty : Nat) (x : Int) : Bt E0 (n + 2) ty 197 [.sc (.int .i64 x)] = some (.sc (.bool (Gj x 0 2))) := by
 rw [Ax, Ags, f197]
 try simp only [B6, Cp, Bj, Bb, Bo, Bg, Cx, Dl, D7, A9, Br, B4, B7, Cs, Ca, Eg, C5, Cn, Cj, B3, Dz, De, Ef, Dq]
 refine Dv rfl (A8 (Cr _ _) (A8 (Cr _ _) (A8 (Cr _ _) Dc))) (Kx (n + 0) _ x 0 2) ?_
 exact Es (by first | (simp_all [Gj, Er, C7]; done) | (rw [Bool.eq_iff_iff]; simp [Gj, Er, C7] at *; omega))
theorem W4 (n : Nat) (hn : 1048576 < n) (ty : Nat) (m : Ej) (hs : m.fTopic.size ≤ 1048576) : Bt E0 (n + 6) ty 139 [.agg (A1 m)] = some (.sc (.bool (C7 m))) := by
 rw [Ax, Agd, f139]
 try simp only [B6, Cp, Bj, Bb, Bo, Bg, Cx, Dl, D7, A9, Br, B4, B7, Cs, Ca, Eg, C5, Cn, Cj, B3, Dz, De, Ef, Dq]
 refine L0 (Ff _) fun iB1 eB1 B1 => ?_
 refine Ah ?_
 refine Ba (c := .sc (.string m.fTopic)) B1 (A3 rfl) rfl ?_
 refine Dv rfl (A8 (Cr _ _) Dc) (Zv (n + 0) (by omega) _ m.fTopic (by assumption)) ?_
 apply Az ((Er m.fTopic) && (decide ((m.fBody.size : Int) ≤ 40)))
 ·intro b2 q2
  refine Ae ((Er m.fTopic)) (fun h2 => ?_) (fun h2 => ?_)
  ·refine Al h2 ?_
   refine Ah ?_
   refine Al h2 ?_
   refine Ba (c := As m.fBody) B1 (A3 rfl) rfl ?_
   refine Al h2 ?_
   refine Et ?_
   refine Al h2 ?_
   refine Bk (v := .sc (.bool (decide ((m.fBody.size : Int) ≤ 40)))) (fun k => rfl) ?_
   refine Bv h2 (Gm q2 h2) ?_
   exact rfl
  ·refine Am h2 ?_
   refine Am h2 ?_
   refine Am h2 ?_
   refine Am h2 ?_
   refine Bu h2 (Gl q2 h2) ?_
   exact rfl
 intro b2 q2
 apply Az (b2 && (Gj m.fQos 0 2))
 ·intro b3 q3
  refine Ae (b2) (fun h3 => ?_) (fun h3 => ?_)
  ·refine Al h3 ?_
   refine Ah ?_
   refine Al h3 ?_
   refine Ba (c := .sc (.int .i64 m.fQos)) B1 (A3 rfl) rfl ?_
   refine Al h3 ?_
   refine Dv rfl (A8 (Cr _ _) (A8 (Cr _ _) (A8 (Cr _ _) Dc))) (P4 (n + 4) _ m.fQos 0 2) ?_
   refine Bv h3 (Gm q3 h3) ?_
   exact rfl
  ·refine Am h3 ?_
   refine Am h3 ?_
   refine Am h3 ?_
   refine Bu h3 (Gl q3 h3) ?_
   exact rfl
 intro b3 q3
 exact Es (by subst_vars; first | rfl | (simp only [C7]; done) | (simp only [C7]; ac_rfl))
theorem We (n : Nat) (hn : 1048576 < n) (ty : Nat) (m : Ej) (hs : m.fTopic.size ≤ 1048576) : Bt E0 (n + 6) ty 151 [.agg (A1 m)] = some (.sc (.bool (C7 m))) := by
 rw [Ax, Agi, f151]
 try simp only [B6, Cp, Bj, Bb, Bo, Bg, Cx, Dl, D7, A9, Br, B4, B7, Cs, Ca, Eg, C5, Cn, Cj, B3, Dz, De, Ef, Dq]
 refine L0 (Ff _) fun iB1 eB1 B1 => ?_
 refine Ah ?_
 refine Ba (c := .sc (.string m.fTopic)) B1 (A3 rfl) rfl ?_
 refine Dv rfl (A8 (Cr _ _) Dc) (Y9 (n + 0) (by omega) _ m.fTopic (by assumption)) ?_
 apply Az ((Er m.fTopic) && (decide ((m.fBody.size : Int) ≤ 40)))
 ·intro b2 q2
  refine Ae ((Er m.fTopic)) (fun h2 => ?_) (fun h2 => ?_)
  ·refine Al h2 ?_
   refine Ah ?_
   refine Al h2 ?_
   refine Ba (c := As m.fBody) B1 (A3 rfl) rfl ?_
   refine Al h2 ?_
   refine Et ?_
   refine Al h2 ?_
   refine Bk (v := .sc (.bool (decide ((m.fBody.size : Int) ≤ 40)))) (fun k => rfl) ?_
   refine Bv h2 (Gm q2 h2) ?_
   exact rfl
  ·refine Am h2 ?_
   refine Am h2 ?_
   refine Am h2 ?_
   refine Am h2 ?_
   refine Bu h2 (Gl q2 h2) ?_
   exact rfl
 intro b2 q2
 apply Az (b2 && (Gj m.fQos 0 2))
 ·intro b3 q3
  refine Ae (b2) (fun h3 => ?_) (fun h3 => ?_)
  ·refine Al h3 ?_
   refine Ah ?_
   refine Al h3 ?_
   refine Ba (c := .sc (.int .i64 m.fQos)) B1 (A3 rfl) rfl ?_
   refine Al h3 ?_
   refine Dv rfl (A8 (Cr _ _) Dc) (Aj6 (n + 3) _ m.fQos) ?_
   refine Bv h3 (Gm q3 h3) ?_
   exact rfl
  ·refine Am h3 ?_
   refine Am h3 ?_
   refine Am h3 ?_
   refine Bu h3 (Gl q3 h3) ?_
   exact rfl
 intro b3 q3
 exact Es (by subst_vars; first | rfl | (simp only [C7]; done) | (simp only [C7]; ac_rfl))
def Fx (l : List Ej) : Bool := l.all C7 && decide ((l.length : Int) ≤ 6)
theorem Xp {α : Type} (p : α → Bool) (e : Bool) (go : List α → List α → Bool) (h0 : ∀ pre, go pre [] = e) (h1 : ∀ pre x r, go pre (x :: r) = (p x && go (pre ++ [x]) r)) : ∀ (r pre : List α), go pre r = (r.all p && e)
 | [], pre => by rw [h0]; simp
 | x :: r, pre => by rw [h1, Xp p e go h0 h1 r, List.all_cons, Bool.and_assoc]
def Ut (l : List Ej) : List Ej → List Ej → Bool
 | pre, [] => decide ((l.length : Int) ≤ 6)
 | pre, x :: r => C7 x && Ut l (pre ++ [x]) r
theorem Ss (n : Nat) (hn : 1048576 < n) (ty : Nat) (l : List Ej) (hlen : l.length ≤ 1048576) (hsl : ∀ x ∈ l, x.fTopic.size ≤ 1048576) : ∀ (r pre : List Ej) (m : Nat) (H : Ab), l = pre ++ r → r.length < m → Nu (PR (n + 6) AV) (n + 6) (fun x H => Aw Ag E0.tp ty H x) m (At A1 l) (.sc (.int .i64 pre.length)) H = some (.sc (.bool (Ut l pre r)))
 | [], pre, m + 1, H, hl, hm => by
  have hlt : decide ((pre.length : Int) < (l.length : Int)) = false := by
   rw [hl]
   simp
  show (PR (n + 6) AV).len _ _ = _
  simp only [B6, Cp, Bj, Bb, Bo, Bg, Cx, Dl, D7, A9, Br, B4, B7, Cs, Ca, Eg, C5, Cn, Cj, B3, Dz, De, Ef, Dq]
  refine Et ?_
  refine Bk (v := .sc (.bool (decide ((pre.length : Int) < (l.length : Int))))) (fun k => rfl) ?_
  refine Hz hlt ?_
  refine Et ?_
  refine Bk (v := .sc (.bool (decide ((l.length : Int) ≤ 6)))) (fun k => rfl) ?_
  exact Es (by first | (subst_vars; simp only [Ut]; simp_all; done) | (subst_vars; unfold Ut; simp_all))
 | x :: r, pre, m + 1, H, hl, hm => by
  have hpl : pre.length < l.length := by rw [hl]; simp
  have hlt : decide ((pre.length : Int) < (l.length : Int)) = true := by simpa using hpl
  have hmem : x ∈ l := by rw [hl]; simp
  have hix : IntKind.i64.wrap ((pre.length : Int) + 1) = (((pre ++ [x]).length : Nat) : Int) := by
   rw [Gs _ (by omega) (by omega), List.length_append, List.length_singleton]
   rfl
  try have hs : x.fTopic.size ≤ 1048576 := hsl x (by assumption)
  show (PR (n + 6) AV).len _ _ = _
  simp only [B6, Cp, Bj, Bb, Bo, Bg, Cx, Dl, D7, A9, Br, B4, B7, Cs, Ca, Eg, C5, Cn, Cj, B3, Dz, De, Ef, Dq]
  refine Et ?_
  refine Bk (v := .sc (.bool (decide ((pre.length : Int) < (l.length : Int))))) (fun k => rfl) ?_
  refine Hh hlt ?_
  refine Ji F4 (by decide) hl ?_
  refine I0 (ds := A1 x) (A3 rfl) rfl ?_
  refine Dv rfl (A8 (E2 _ (Ff _)) Dc) (W4 (n + 0) (by omega) _ x (by assumption)) ?_
  refine Jj ?_
  refine Ae ((C7 x)) (fun h1 => ?_) (fun h1 => ?_)
  ·refine Hz (nF h1) ?_
   refine Bk (v := .sc (.int .i64 (IntKind.i64.wrap ((pre.length : Int) + 1)))) (fun k => rfl) ?_
   rw [hix]
   refine (Ss n hn ty l hlen hsl r (pre ++ [x]) m _  (by rw [hl]; simp) (by simpa using hm)).trans (congrArg (fun b => some (AV.sc (Value.bool b))) ?_)
   first | (subst_vars; simp only [Ut]; simp_all; done) | (subst_vars; unfold Ut; simp_all)
  ·refine Hh (nT h1) ?_
   exact Es (by first | (subst_vars; simp only [Ut]; simp_all; done) | (subst_vars; unfold Ut; simp_all))
def Us : List Ej → List Ej → Bool
 | pre, [] => true
 | pre, x :: r => C7 x && Us (pre ++ [x]) r
theorem Rv (n : Nat) (hn : 1048576 < n) (ty : Nat) (l : List Ej) (hlen : l.length ≤ 1048576) (hsl : ∀ x ∈ l, x.fTopic.size ≤ 1048576) : ∀ (r pre : List Ej) (m : Nat) (H : Ab), l = pre ++ r → r.length < m → Nt (PR (n + 6) AV) (n + 6) (fun x H => Aw Ag E0.tp ty H x) m (At A1 l) (.sc (.int .i64 (l.length : Int))) (.sc (.int .i64 pre.length)) H = some (.sc (.bool (Us pre r)))
 | [], pre, m + 1, H, hl, hm => by
  have hlt : decide ((pre.length : Int) < (l.length : Int)) = false := by
   rw [hl]
   simp
  show (PR (n + 6) AV).bin _ _ _ _ = _
  simp only [B6, Cp, Bj, Bb, Bo, Bg, Cx, Dl, D7, A9, Br, B4, B7, Cs, Ca, Eg, C5, Cn, Cj, B3, Dz, De, Ef, Dq]
  refine Bk (v := .sc (.bool (decide ((pre.length : Int) < (l.length : Int))))) (fun k => rfl) ?_
  refine Hz hlt ?_
  exact Es (by first | (subst_vars; simp only [Us]; simp_all; done) | (subst_vars; unfold Us; simp_all))
 | x :: r, pre, m + 1, H, hl, hm => by
  have hpl : pre.length < l.length := by rw [hl]; simp
  have hlt : decide ((pre.length : Int) < (l.length : Int)) = true := by simpa using hpl
  have hmem : x ∈ l := by rw [hl]; simp
  have hix : IntKind.i64.wrap ((pre.length : Int) + 1) = (((pre ++ [x]).length : Nat) : Int) := by
   rw [Gs _ (by omega) (by omega), List.length_append, List.length_singleton]
   rfl
  try have hs : x.fTopic.size ≤ 1048576 := hsl x (by assumption)
  show (PR (n + 6) AV).bin _ _ _ _ = _
  simp only [B6, Cp, Bj, Bb, Bo, Bg, Cx, Dl, D7, A9, Br, B4, B7, Cs, Ca, Eg, C5, Cn, Cj, B3, Dz, De, Ef, Dq]
  refine Bk (v := .sc (.bool (decide ((pre.length : Int) < (l.length : Int))))) (fun k => rfl) ?_
  refine Hh hlt ?_
  refine Ji F4 (by decide) hl ?_
  refine I0 (ds := A1 x) (A3 rfl) rfl ?_
  refine Ux rfl (F4 _) (N1 (Ff _)) fun iB1 B1 => ?_
  refine Qc (ds := A1 x) B1 (A3 rfl) rfl ?_
  refine Dv rfl (A8 (E2 _ (Ff _)) Dc) (We (n + 0) (by omega) _ x (by assumption)) ?_
  refine Jj ?_
  refine Ae ((C7 x)) (fun h2 => ?_) (fun h2 => ?_)
  ·refine Hz (nF h2) ?_
   refine Bk (v := .sc (.int .i64 (IntKind.i64.wrap ((pre.length : Int) + 1)))) (fun k => rfl) ?_
   rw [hix]
   refine (Rv n hn ty l hlen hsl r (pre ++ [x]) m _  (by rw [hl]; simp) (by simpa using hm)).trans (congrArg (fun b => some (AV.sc (Value.bool b))) ?_)
   first | (subst_vars; simp only [Us]; simp_all; done) | (subst_vars; unfold Us; simp_all)
  ·refine Hh (nT h2) ?_
   exact Es (by first | (subst_vars; simp only [Us]; simp_all; done) | (subst_vars; unfold Us; simp_all))
theorem Zu (n : Nat) (hn : 1048576 < n) (ty : Nat) (l : List Ej) (hlen : l.length ≤ 1048576) (hsl : ∀ x ∈ l, x.fTopic.size ≤ 1048576) : Bt E0 (n + 7) ty 194 [At A1 l] = some (.sc (.bool (Fx l))) := by
 rw [Ax, Agq, f194]
 have key := Ss n hn ty l hlen hsl l [] (n + 6) [] rfl (by omega)
 rw [Xp C7 (decide ((l.length : Int) ≤ 6)) (Ut l) (fun _ => rfl) (fun _ _ _ => rfl) l []] at key
 exact key
theorem AcA (n : Nat) (hn : 1048576 < n) (ty : Nat) (l : List Ej) (hlen : l.length ≤ 1048576) (hsl : ∀ x ∈ l, x.fTopic.size ≤ 1048576) : Bt E0 (n + 7) ty 152 [At A1 l] = some (.sc (.bool (l.all C7))) := by
 rw [Ax, Agj, f152]
 simp only [B7]
 refine Et ?_
 have key := Rv n hn ty l hlen hsl l [] (n + 6) [] rfl (by omega)
 rw [Xp C7 true Us (fun _ => rfl) (fun _ _ _ => rfl) l [], Bool.and_true] at key
 exact key
theorem Y8 (n : Nat) (hn : 1048576 < n) (ty : Nat) (l : List Ej) (hlen : l.length ≤ 1048576) (hsl : ∀ x ∈ l, x.fTopic.size ≤ 1048576) : Bt E0 (n + 8) ty 192 [At A1 l] = some (.sc (.bool (Fx l))) := by
 rw [Ax, Ago, f192]
 try simp only [B6, Cp, Bj, Bb, Bo, Bg, Cx, Dl, D7, A9, Br, B4, B7, Cs, Ca, Eg, C5, Cn, Cj, B3, Dz, De, Ef, Dq]
 refine Et ?_
 refine Bk (v := .sc (.bool (decide ((l.length : Int) ≤ 6)))) (fun k => rfl) ?_
 apply Az ((decide ((l.length : Int) ≤ 6)) && (l.all C7))
 ·intro b1 q1
  refine Ae ((decide ((l.length : Int) ≤ 6))) (fun h1 => ?_) (fun h1 => ?_)
  ·refine Al h1 ?_
   refine Al h1 ?_
   refine Dv rfl (A8 (Fe _ _ _) Dc) (AcA (n + 0) (by omega) _ l (by assumption) (by assumption)) ?_
   refine Bv h1 (Gm q1 h1) ?_
   exact rfl
  ·refine Am h1 ?_
   refine Am h1 ?_
   refine Bu h1 (Gl q1 h1) ?_
   exact rfl
 intro b1 q1
 exact Es (by subst_vars; unfold Fx; rw [Bool.and_comm])
theorem AcJ (l : List Ej) (b0 : Mm Eu l ≤ 1048576) : l.length ≤ 1048576 ∧ ∀ x ∈ l, x.fTopic.size ≤ 1048576 := by
 have h1 := Ge Eu l
 refine ⟨by omega, fun x hx => ?_⟩
 have h2 := Ig (wt := Eu) hx
 have h3 : Eu x = x.fTopic.size + (x.fBody.size + 0) := rfl
 omega
def Xk (x : Af) : Bool := if x.fM.fQos == 1 then x.fSt == 1 else (x.fM.fQos == 2 && (x.fSt == 2 || x.fSt == 3))
theorem Aj7 (n : Nat) (ty : Nat) (x : Af) : Bt E0 (n + 1) ty 193 [.agg (Ap x)] = some (.sc (.bool (Xk x))) := by
 rw [Ax, Agp, f193]
 try simp only [B6, Cp, Bj, Bb, Bo, Bg, Cx, Dl, D7, A9, Br, B4, B7, Cs, Ca, Eg, C5, Cn, Cj, B3, Dz, De, Ef, Dq]
 refine L0 (Df _) fun iB1 eB1 B1 => ?_
 refine Ah ?_
 refine Ah ?_
 refine Ba (c := .sc (.int .i64 x.fM.fQos)) B1 (A3 rfl) rfl ?_
 refine Bk (v := .sc (.bool (x.fM.fQos == 1))) (fun k => rfl) ?_
 refine Ae ((x.fM.fQos == 1)) (fun h2 => ?_) (fun h2 => ?_)
 ·refine Hh h2 ?_
  refine Ah ?_
  refine Ba (c := .sc (.int .i64 x.fSt)) B1 (A3 rfl) rfl ?_
  refine Bk (v := .sc (.bool (x.fSt == 1))) (fun k => rfl) ?_
  exact Es (by subst_vars; unfold Xk; simp_all)
 ·refine Hz h2 ?_
  refine Ah ?_
  refine Ah ?_
  refine Ba (c := .sc (.int .i64 x.fM.fQos)) B1 (A3 rfl) rfl ?_
  refine Bk (v := .sc (.bool (x.fM.fQos == 2))) (fun k => rfl) ?_
  apply Az ((x.fM.fQos == 2) && ((x.fSt == 2) || (x.fSt == 3)))
  ·intro b3 q3
   refine Ae ((x.fM.fQos == 2)) (fun h3 => ?_) (fun h3 => ?_)
   ·refine Al h3 ?_
    refine Ah ?_
    refine Al h3 ?_
    refine Ba (c := .sc (.int .i64 x.fSt)) B1 (A3 rfl) rfl ?_
    refine Al h3 ?_
    refine Bk (v := .sc (.bool (x.fSt == 2))) (fun k => rfl) ?_
    refine Al h3 ?_
    apply Az ((x.fSt == 2) || (x.fSt == 3))
    ·intro b4 q4
     refine Ae ((x.fSt == 2)) (fun h4 => ?_) (fun h4 => ?_)
     ·refine C8 h4 ?_
      refine C8 h4 ?_
      refine C8 h4 ?_
      refine Al h3 ?_
      refine Bv h4 (mOT q4 h4) ?_
      exact rfl
     ·refine C3 h4 ?_
      refine Ah ?_
      refine C3 h4 ?_
      refine Ba (c := .sc (.int .i64 x.fSt)) B1 (A3 rfl) rfl ?_
      refine C3 h4 ?_
      refine Bk (v := .sc (.bool (x.fSt == 3))) (fun k => rfl) ?_
      refine Al h3 ?_
      refine Bu h4 (mOF q4 h4) ?_
      exact rfl
    intro b4 q4
    refine Bv h3 (by subst q4; exact Gm q3 h3) ?_
    exact rfl
   ·refine Am h3 ?_
    refine Am h3 ?_
    refine Am h3 ?_
    refine Am h3 ?_
    refine w_u ?_
    refine w_u ?_
    refine w_u ?_
    refine Am h3 ?_
    refine Bu h3 (Gl q3 h3) ?_
    exact rfl
  intro b3 q3
  exact Es (by subst_vars; unfold Xk; simp_all)
theorem Ak8 (n : Nat) (ty : Nat) (x : Int) : Bt E0 (n + 2) ty 190 [.sc (.int .i64 x)] = some (.sc (.bool (Gj x 1 65535))) := by
 rw [Ax, Aay, f190]
 try simp only [B6, Cp, Bj, Bb, Bo, Bg, Cx, Dl, D7, A9, Br, B4, B7, Cs, Ca, Eg, C5, Cn, Cj, B3, Dz, De, Ef, Dq]
 refine Dv rfl (A8 (Cr _ _) (A8 (Cr _ _) (A8 (Cr _ _) Dc))) (Kx (n + 0) _ x 1 65535) ?_
 exact Es (by first | (simp_all [Gj, Er, C7, Fx, Xk]; done) | (rw [Bool.eq_iff_iff]; simp [Gj, Er, C7, Fx, Xk] at *; omega))
theorem Ahk (n : Nat) (ty : Nat) (x : Int) : Bt E0 (n + 2) ty 191 [.sc (.int .i64 x)] = some (.sc (.bool (Gj x 0 65535))) := by
 rw [Ax, Agn, f191]
 try simp only [B6, Cp, Bj, Bb, Bo, Bg, Cx, Dl, D7, A9, Br, B4, B7, Cs, Ca, Eg, C5, Cn, Cj, B3, Dz, De, Ef, Dq]
 refine Dv rfl (A8 (Cr _ _) (A8 (Cr _ _) (A8 (Cr _ _) Dc))) (Kx (n + 0) _ x 0 65535) ?_
 exact Es (by first | (simp_all [Gj, Er, C7, Fx, Xk]; done) | (rw [Bool.eq_iff_iff]; simp [Gj, Er, C7, Fx, Xk] at *; omega))
def Hj (pre : List Af) (x : Af) : Bool := pre.any fun y => y.fId == x.fId
def Rr : List Af → List Af → Bool
 | pre, [] => true
 | pre, x :: r => (Gj x.fId 1 65535 && C7 x.fM && Xk x && !(Hj pre x)) && Rr (pre ++ [x]) r
def Iz (o : Ci) : Bool := Rr [] o.fFl && (Gj o.fLast 0 65535 && decide ((o.fFl.length : Int) ≤ 3) && Fx o.fQ)
theorem Y3 (o : Ci) (b0 : Ev o ≤ 1048576) : (o.fFl.length ≤ 1048576 ∧ ∀ x ∈ o.fFl, x.fM.fTopic.size ≤ 1048576) ∧ (o.fQ.length ≤ 1048576 ∧ ∀ x ∈ o.fQ, x.fTopic.size ≤ 1048576) := by
 have e : Ev o = Mm B9 o.fFl + (Mm Eu o.fQ + 0) := rfl
 refine ⟨?_, AcJ _ (by omega)⟩
 have h1 := Ge B9 o.fFl
 refine ⟨by omega, fun x hx => ?_⟩
 have h2 := Ig (wt := B9) hx
 have h3 : B9 x = x.fM.fTopic.size + (x.fM.fBody.size + 0) + 0 := rfl
 omega
theorem T2 (n : Nat) (ty : Nat) (o : Ci) (hlen : o.fFl.length ≤ 1048576) (x : Af) (g0 : AV → AV → Ab → Option AV) (kk : AV → Ab → Option AV) (i1 : Nat) (H : Ab) (B : H[i1]? = some ⟨Ar o, true, true⟩) (pre r : List Af) (hl : o.fFl = pre ++ x :: r) : ∀ (s p2 : List Af) (m : Nat), pre = p2 ++ s → s.length < m →
  Re (PR n AV) n g0 kk m (.ptr i1 0) (.sc (.int .i64 pre.length)) (.sc (.int .i64 p2.length)) H = if Hj s x then kk (.sc (.bool false)) H else g0 (.ptr i1 0) (.sc (.int .i64 (IntKind.i64.wrap ((pre.length : Int) + 1)))) H
 | [], p2, m + 1, he, hm => by
  rw [List.append_nil] at he
  subst he
  show (PR n AV).bin _ _ _ _ = _
  simp only [Bg, A9, Bj, Bb, Ca]
  rw [Ct, Bl, if_neg (by simp)]
  rfl
 | y :: s, p2, m + 1, he, hm => by
  have hlt : p2.length < pre.length := by rw [he]; simp
  have hpl : pre.length < o.fFl.length := by rw [hl]; simp
  show (PR n AV).bin _ _ _ _ = _
  simp only [Bg, A9, Bj, Bb, Ca]
  rw [Ct, Bl, if_pos (by simpa using hlt)]
  refine Ah ?_
  refine Ba (c := At Ap o.fFl) B (A3 rfl) rfl ?_
  refine Ji (pre := p2) (x := y) (t := s ++ x :: r) Bf (by decide) (by rw [hl, he]; simp) ?_
  refine Ho ?_
  refine Ml (c := .sc (.int .i64 y.fId)) rfl ?_
  refine Ah ?_
  refine Ba (c := At Ap o.fFl) B (A3 rfl) rfl ?_
  refine Ji (pre := pre) (x := x) (t := r) Bf (by decide) hl ?_
  refine Ho ?_
  refine Ml (c := .sc (.int .i64 x.fId)) rfl ?_
  refine Bk (v := .sc (.bool (y.fId == x.fId))) (fun k => rfl) ?_
  have ih := T2 n ty o hlen x g0 kk i1 H B pre r hl s (p2 ++ [y]) m (by rw [he]; simp) (by simpa using hm)
  rw [List.length_append, List.length_singleton] at ih
  have hany : Hj (y :: s) x = (y.fId == x.fId || Hj s x) := rfl
  rw [hany]
  cases hid : (y.fId == x.fId)
  ·refine Hz rfl ?_
   rw [Dt _ _ (by omega), ih]
   rfl
  ·exact Hh rfl rfl
theorem AaL (p : Af → Bool) : ∀ (pre r : List Af) (x : Af) (i : Nat), p x = true → Cl p (pre ++ x :: r) i = if pre.any p then Cl p pre i else ((i + pre.length : Nat) : Int)
 | [], r, x, i, h => by simp [Cl, h]
 | y :: pre, r, x, i, h => by
  rw [List.cons_append, Cl, AaL p pre r x (i + 1) h, Cl, List.any_cons]
  cases hy : p y
  ·simp only [Bool.false_eq_true, if_false, Bool.false_or, List.length_cons]
   rw [show i + 1 + pre.length = i + (pre.length + 1) by omega]
  ·simp
theorem AeG (p : Af → Bool) : ∀ (pre : List Af) (i : Nat), pre.any p = true → Cl p pre i < ((i + pre.length : Nat) : Int)
 | [], i, h => by simp at h
 | y :: pre, i, h => by
  rw [Cl]
  cases hy : p y
  ·rw [List.any_cons, hy, Bool.false_or] at h
   have := AeG p pre (i + 1) h
   simp only [Bool.false_eq_true, if_false, List.length_cons]
   omega
  ·simp only [if_true, List.length_cons]
   omega
theorem AeH (o : Ci) (pre r : List Af) (x : Af) (hl : o.fFl = pre ++ x :: r) : (Cl (fun y : Af => y.fId == x.fId) o.fFl 0 != (pre.length : Int)) = Hj pre x := by
 rw [hl, AaL _ pre r x 0 (by simp)]
 unfold Hj
 cases h : pre.any fun y => y.fId == x.fId
 ·simp
 ·have := AeG _ pre 0 h
  simp only [if_true]
  rw [bne_iff_ne.2]
  simp at this
  omega
theorem Ac8 (n : Nat) (ty : Nat) (x : Af) (z : Int) : Bt E0 (n + 1) ty 213 [.agg (Ap x), .rp [.sc (.int .i64 z)]] = some (.sc (.bool (x.fId == z))) := by
 rw [Ax, Ag4, f213]
 simp only [B6, Bj, Bb, Bg]
 refine L0 (Df _) fun i e hi => ?_
 refine Ah ?_
 refine Ba (c := .sc (.int .i64 x.fId)) hi (A3 rfl) rfl ?_
 refine Ml (c := .sc (.int .i64 z)) rfl ?_
 rw [Adr]
 rfl
theorem Uq (n : Nat) (hn : 1048576 < n) (ty : Nat) (l : List Af) (z : Int) (hl : l.length ≤ 1048576) : Bt E0 (n + 2) ty 212 [At Ap l, .fn 213 [] [.rp [.sc (.int .i64 z)]]] = some (.sc (.int .i64 (Cl (fun y : Af => y.fId == z) l 0))) := by
 rw [Ax, Ag3, f212]
 simp only [B7]
 rw [Dg]
 have key := Rw (n := n + 1) (tb := 4) (g := 213) (caps := [.rp [.sc (.int .i64 z)]]) Ap (fun y : Af => y.fId == z) (fun x H => Aw Ag E0.tp ty H x) Bf (by decide) Df rfl (fun H => rfl) (fun m a b c i H => Ny (PR (n + 1) AV) (n + 1) (fun x H => Aw Ag E0.tp ty H x) m a b c i H) (fun m a b c i H => rfl) l (fun x _ => Ac8 n _ x z) hl [] l [] (n + 1) rfl (by omega)
 simp only [List.length_nil, Int.natCast_zero] at key
 rw [key]
 rfl
theorem Tj (n : Nat) (hn : 1048576 < n) (ty : Nat) (l : List Af) (z : Int) (hl : l.length ≤ 1048576) : Bt E0 (n + 3) ty 90 [At Ap l, .sc (.int .i64 z)] = some (.sc (.int .i64 (Cl (fun y : Af => y.fId == z) l 0))) := by
 rw [Ax, Ajt, f90]
 simp only [B6]
 refine AjU rfl fun i2 e2 hi2 => ?_
 refine Dv rfl (A8 (Fe _ _ _) (A8 (Aiz hi2 rfl) Dc)) (Uq n hn _ l z hl) ?_
 rfl
theorem AhB (x : Af) (hv : C7 x.fM = true) : Xk x = !((x.fM.fQos == 0) || (!((x.fM.fQos == 1) == (x.fSt == 1)) || !(Gj x.fSt 1 3))) := by
 have hq : 0 ≤ x.fM.fQos ∧ x.fM.fQos ≤ 2 := by
  unfold C7 Gj at hv
  simp at hv
  exact hv.2
 unfold Xk Gj
 obtain h | h | h : x.fM.fQos = 0 ∨ x.fM.fQos = 1 ∨ x.fM.fQos = 2 := by omega
 ·simp [h]
 ·rw [h, Bool.eq_iff_iff]
  simp
  intro h1
  omega
 ·rw [h, Bool.eq_iff_iff]
  simp
  omega
def N7 (o : Ci) : List Af → List Af → Bool
 | pre, [] => Gj o.fLast 0 65535 && decide ((o.fFl.length : Int) ≤ 3) && Fx o.fQ
 | pre, x :: r => (Gj x.fId 1 65535 && C7 x.fM && Xk x && !(Hj pre x)) && N7 o (pre ++ [x]) r
theorem Qa (n : Nat) (hn : 1048576 < n) (ty : Nat) (o : Ci) (hlen : o.fFl.length ≤ 1048576) (hsl : ∀ x ∈ o.fFl, x.fM.fTopic.size ≤ 1048576) (hqn : o.fQ.length ≤ 1048576) (hqs : ∀ x ∈ o.fQ, x.fTopic.size ≤ 1048576) (i1 : Nat) : ∀ (r pre : List Af) (m : Nat) (H : Ab) (B : H[i1]? = some ⟨Ar o, true, true⟩), o.fFl = pre ++ r → r.length < m → Mz (PR (n + 8) AV) (n + 8) (fun x H => Aw Ag E0.tp ty H x) m (.ptr i1 0) (.sc (.int .i64 pre.length)) H = some (.sc (.bool (N7 o pre r)))
 | [], pre, m + 1, H, B, hl, hm => by
  have hlt : decide ((pre.length : Int) < (o.fFl.length : Int)) = false := by
   rw [hl]
   simp
  show (PR (n + 8) AV).fadr _ _ _ = _
  simp only [B6, Cp, Bj, Bb, Bo, Bg, Cx, Dl, D7, A9, Br, B4, B7, Cs, Ca, Eg, C5, Cn, Cj, B3, Dz, De, Ef, Dq]
  refine Ah ?_
  refine Ba (c := At Ap o.fFl) B (A3 rfl) rfl ?_
  refine Et ?_
  refine Bk (v := .sc (.bool (decide ((pre.length : Int) < (o.fFl.length : Int))))) (fun k => rfl) ?_
  refine Hz hlt ?_
  refine Ah ?_
  refine Ba (c := .sc (.int .i64 o.fLast)) B (A3 rfl) rfl ?_
  refine Dv rfl (A8 (Cr _ _) (A8 (Cr _ _) (A8 (Cr _ _) Dc))) (P4 (n + 7) _ o.fLast 0 65535) ?_
  apply Az ((Gj o.fLast 0 65535) && (decide ((o.fFl.length : Int) ≤ 3)))
  ·intro b1 q1
   refine Ae ((Gj o.fLast 0 65535)) (fun h1 => ?_) (fun h1 => ?_)
   ·refine Al h1 ?_
    refine Ah ?_
    refine Al h1 ?_
    refine Ba (c := At Ap o.fFl) B (A3 rfl) rfl ?_
    refine Al h1 ?_
    refine Et ?_
    refine Al h1 ?_
    refine Bk (v := .sc (.bool (decide ((o.fFl.length : Int) ≤ 3)))) (fun k => rfl) ?_
    refine Bv h1 (Gm q1 h1) ?_
    exact rfl
   ·refine Am h1 ?_
    refine Am h1 ?_
    refine Am h1 ?_
    refine Am h1 ?_
    refine Bu h1 (Gl q1 h1) ?_
    exact rfl
  intro b1 q1
  apply Az (b1 && (Fx o.fQ))
  ·intro b2 q2
   refine Ae (b1) (fun h2 => ?_) (fun h2 => ?_)
   ·refine Al h2 ?_
    refine Ah ?_
    refine Al h2 ?_
    refine Ba (c := At A1 o.fQ) B (A3 rfl) rfl ?_
    refine Al h2 ?_
    refine Dv rfl (A8 (Fe _ _ _) Dc) (Zu (n + 1) (by omega) _ o.fQ (by assumption) (by assumption)) ?_
    refine Bv h2 (Gm q2 h2) ?_
    exact rfl
   ·refine Am h2 ?_
    refine Am h2 ?_
    refine Am h2 ?_
    refine Bu h2 (Gl q2 h2) ?_
    exact rfl
  intro b2 q2
  exact Es (by (try clear ih); (try clear hlt); (try clear hix); (try clear hm); (try clear hmem); (try clear hpl); (try clear hsl); (try clear hlen); (try clear hqn); (try clear hqs); (try clear hs); (try clear B); (try clear B1); (try clear B2); (try clear hl); subst_vars; rw [N7]; first | done | (cases h1 : Gj x.fId 1 65535 <;> cases h2 : C7 x.fM <;> cases h3 : Xk x <;> cases h4 : Hj pre x <;> simp [h1, h2, h3, h4] at *))
 | x :: r, pre, m + 1, H, B, hl, hm => by
  have hpl : pre.length < o.fFl.length := by rw [hl]; simp
  have hlt : decide ((pre.length : Int) < (o.fFl.length : Int)) = true := by simpa using hpl
  have hmem : x ∈ o.fFl := by rw [hl]; simp
  have hix : IntKind.i64.wrap ((pre.length : Int) + 1) = (((pre ++ [x]).length : Nat) : Int) := by
   rw [Gs _ (by omega) (by omega), List.length_append, List.length_singleton]
   rfl
  try have hs : x.fM.fTopic.size ≤ 1048576 := hsl x (by assumption)
  show (PR (n + 8) AV).fadr _ _ _ = _
  simp only [B6, Cp, Bj, Bb, Bo, Bg, Cx, Dl, D7, A9, Br, B4, B7, Cs, Ca, Eg, C5, Cn, Cj, B3, Dz, De, Ef, Dq]
  refine Ah ?_
  refine Ba (c := At Ap o.fFl) B (A3 rfl) rfl ?_
  refine Et ?_
  refine Bk (v := .sc (.bool (decide ((pre.length : Int) < (o.fFl.length : Int))))) (fun k => rfl) ?_
  refine Hh hlt ?_
  refine Ah ?_
  refine Ba (c := At Ap o.fFl) B (A3 rfl) rfl ?_
  refine Ji Bf (by decide) hl ?_
  refine Ho ?_
  refine Ml (c := .sc (.int .i64 x.fId)) rfl ?_
  refine Dv rfl (A8 (Cr _ _) (A8 (Cr _ _) (A8 (Cr _ _) Dc))) (P4 (n + 7) _ x.fId 1 65535) ?_
  refine Jj ?_
  apply Az ((!(Gj x.fId 1 65535)) || (!(C7 x.fM)))
  ·intro b1 q1
   refine Ae ((Gj x.fId 1 65535)) (fun h1 => ?_) (fun h1 => ?_)
   ·refine C3 (nF h1) ?_
    refine Ah ?_
    refine C3 (nF h1) ?_
    refine Ba (c := At Ap o.fFl) B (A3 rfl) rfl ?_
    refine C3 (nF h1) ?_
    refine C3 (nF h1) ?_
    refine Ji Bf (by decide) hl ?_
    refine C3 (nF h1) ?_
    refine Ho ?_
    refine C3 (nF h1) ?_
    refine I0 (ds := A1 x.fM) (A3 rfl) rfl ?_
    refine C3 (nF h1) ?_
    refine Dv rfl (A8 (E2 _ (Ff _)) Dc) (W4 (n + 2) (by omega) _ x.fM (by assumption)) ?_
    refine C3 (nF h1) ?_
    refine Jj ?_
    refine Bu (nF h1) (mOF q1 (nF h1)) ?_
    exact rfl
   ·refine C8 (nT h1) ?_
    refine C8 (nT h1) ?_
    refine C8 (nT h1) ?_
    refine C8 (nT h1) ?_
    refine C8 (nT h1) ?_
    refine C8 (nT h1) ?_
    refine C8 (nT h1) ?_
    refine C8 (nT h1) ?_
    refine Bv (nT h1) (mOT q1 (nT h1)) ?_
    exact rfl
  intro b1 q1
  apply Az (b1 || (!(Xk x)))
  ·intro b2 q2
   refine Ae (b1) (fun h2 => ?_) (fun h2 => ?_)
   ·refine C8 h2 ?_
    refine C8 h2 ?_
    refine C8 h2 ?_
    refine C8 h2 ?_
    refine C8 h2 ?_
    refine C8 h2 ?_
    refine C8 h2 ?_
    refine Bv h2 (mOT q2 h2) ?_
    exact rfl
   ·refine C3 h2 ?_
    refine Ah ?_
    refine C3 h2 ?_
    refine Ba (c := At Ap o.fFl) B (A3 rfl) rfl ?_
    refine C3 h2 ?_
    refine C3 h2 ?_
    refine Ji Bf (by decide) hl ?_
    refine C3 h2 ?_
    refine I0 (ds := Ap x) (A3 rfl) rfl ?_
    refine C3 h2 ?_
    refine Dv rfl (A8 (E2 _ (Df _)) Dc) (Aj7 (n + 7) _ x) ?_
    refine C3 h2 ?_
    refine Jj ?_
    refine Bu h2 (mOF q2 h2) ?_
    exact rfl
  intro b2 q2
  refine Ae (b2) (fun h3 => ?_) (fun h3 => ?_)
  ·refine Hh h3 ?_
   exact Es (by (try clear ih); (try clear hlt); (try clear hix); (try clear hm); (try clear hmem); (try clear hpl); (try clear hsl); (try clear hlen); (try clear hqn); (try clear hqs); (try clear hs); (try clear B); (try clear B1); (try clear B2); (try clear hl); subst_vars; rw [N7]; first | done | (cases h1 : Gj x.fId 1 65535 <;> cases h2 : C7 x.fM <;> cases h3 : Xk x <;> cases h4 : Hj pre x <;> simp [h1, h2, h3, h4] at *))
  ·refine Hz h3 ?_
   have key := fun g0 kk => T2 (n + 8) ty o hlen x g0 kk i1 H B pre r hl pre [] (n + 8) rfl (by omega)
   simp only [List.length_nil, Int.natCast_zero] at key
   rw [key]
   clear key
   cases hpre : Hj pre x
   ·simp only [Bool.false_eq_true, if_false]
    rw [hix]
    refine (Qa n hn ty o hlen hsl hqn hqs i1 r (pre ++ [x]) m _ B (by rw [hl]; simp) (by simpa using hm)).trans (congrArg (fun b => some (AV.sc (Value.bool b))) ?_)
    (try clear ih); (try clear hlt); (try clear hix); (try clear hm); (try clear hmem); (try clear hpl); (try clear hsl); (try clear hlen); (try clear hqn); (try clear hqs); (try clear hs); (try clear B); (try clear B1); (try clear B2); (try clear hl); subst_vars; rw [N7]; first | done | (cases h1 : Gj x.fId 1 65535 <;> cases h2 : C7 x.fM <;> cases h3 : Xk x <;> cases h4 : Hj pre x <;> simp [h1, h2, h3, h4] at *)
   ·simp only [if_true]
    exact Es (by (try clear ih); (try clear hlt); (try clear hix); (try clear hm); (try clear hmem); (try clear hpl); (try clear hsl); (try clear hlen); (try clear hqn); (try clear hqs); (try clear hs); (try clear B); (try clear B1); (try clear B2); (try clear hl); subst_vars; rw [N7]; first | done | (cases h1 : Gj x.fId 1 65535 <;> cases h2 : C7 x.fM <;> cases h3 : Xk x <;> cases h4 : Hj pre x <;> simp [h1, h2, h3, h4] at *))
theorem P1 (n : Nat) (hn : 1048576 < n) (ty : Nat) (o : Ci) (hlen : o.fFl.length ≤ 1048576) (hsl : ∀ x ∈ o.fFl, x.fM.fTopic.size ≤ 1048576) (hqn : o.fQ.length ≤ 1048576) (hqs : ∀ x ∈ o.fQ, x.fTopic.size ≤ 1048576) (i1 : Nat) : ∀ (r pre : List Af) (m : Nat) (H : Ab) (B : H[i1]? = some ⟨Ar o, true, true⟩), o.fFl = pre ++ r → r.length < m → Rd (PR (n + 9) AV) (n + 9) (fun x H => Aw Ag E0.tp ty H x) m (.ptr i1 0) (At Ap o.fFl) (.sc (.int .i64 (o.fFl.length : Int))) (.sc (.int .i64 pre.length)) H = some (.sc (.bool (N7 o pre r)))
 | [], pre, m + 1, H, B, hl, hm => by
  have hlt : decide ((pre.length : Int) < (o.fFl.length : Int)) = false := by
   rw [hl]
   simp
  show (PR (n + 9) AV).bin _ _ _ _ = _
  simp only [B6, Cp, Bj, Bb, Bo, Bg, Cx, Dl, D7, A9, Br, B4, B7, Cs, Ca, Eg, C5, Cn, Cj, B3, Dz, De, Ef, Dq]
  refine Bk (v := .sc (.bool (decide ((pre.length : Int) < (o.fFl.length : Int))))) (fun k => rfl) ?_
  refine Hz hlt ?_
  refine Ah ?_
  refine Ba (c := .sc (.int .i64 o.fLast)) B (A3 rfl) rfl ?_
  refine Dv rfl (A8 (Cr _ _) Dc) (Ahk (n + 7) _ o.fLast) ?_
  apply Az ((Gj o.fLast 0 65535) && (decide ((o.fFl.length : Int) ≤ 3)))
  ·intro b1 q1
   refine Ae ((Gj o.fLast 0 65535)) (fun h1 => ?_) (fun h1 => ?_)
   ·refine Al h1 ?_
    refine Ah ?_
    refine Al h1 ?_
    refine Ba (c := At Ap o.fFl) B (A3 rfl) rfl ?_
    refine Al h1 ?_
    refine Et ?_
    refine Al h1 ?_
    refine Bk (v := .sc (.bool (decide ((o.fFl.length : Int) ≤ 3)))) (fun k => rfl) ?_
    refine Bv h1 (Gm q1 h1) ?_
    exact rfl
   ·refine Am h1 ?_
    refine Am h1 ?_
    refine Am h1 ?_
    refine Am h1 ?_
    refine Bu h1 (Gl q1 h1) ?_
    exact rfl
  intro b1 q1
  apply Az (b1 && (Fx o.fQ))
  ·intro b2 q2
   refine Ae (b1) (fun h2 => ?_) (fun h2 => ?_)
   ·refine Al h2 ?_
    refine Ah ?_
    refine Al h2 ?_
    refine Ba (c := At A1 o.fQ) B (A3 rfl) rfl ?_
    refine Al h2 ?_
    refine Dv rfl (A8 (Fe _ _ _) Dc) (Y8 (n + 1) (by omega) _ o.fQ (by assumption) (by assumption)) ?_
    refine Bv h2 (Gm q2 h2) ?_
    exact rfl
   ·refine Am h2 ?_
    refine Am h2 ?_
    refine Am h2 ?_
    refine Bu h2 (Gl q2 h2) ?_
    exact rfl
  intro b2 q2
  exact Es (by (try clear ih); (try clear hlt); (try clear hix); (try clear hm); (try clear hmem); (try clear hpl); (try clear hsl); (try clear hlen); (try clear hqn); (try clear hqs); (try clear hs); (try clear B); (try clear B1); (try clear B2); (try clear hl); subst_vars; rw [N7]; first | done | (cases h2 : C7 x.fM <;> (try rw [AhB x h2]) <;> cases h1 : Gj x.fId 1 65535 <;> cases h4 : Hj pre x <;> cases h5 : (x.fM.fQos == 0) <;> cases h6 : ((x.fM.fQos == 1) == (x.fSt == 1)) <;> cases h7 : Gj x.fSt 1 3 <;> simp [h1, h2, h4, h5, h6, h7] at * <;> contradiction))
 | x :: r, pre, m + 1, H, B, hl, hm => by
  have hpl : pre.length < o.fFl.length := by rw [hl]; simp
  have hlt : decide ((pre.length : Int) < (o.fFl.length : Int)) = true := by simpa using hpl
  have hmem : x ∈ o.fFl := by rw [hl]; simp
  have hix : IntKind.i64.wrap ((pre.length : Int) + 1) = (((pre ++ [x]).length : Nat) : Int) := by
   rw [Gs _ (by omega) (by omega), List.length_append, List.length_singleton]
   rfl
  try have hs : x.fM.fTopic.size ≤ 1048576 := hsl x (by assumption)
  try have hidx := AeH o pre r x hl
  show (PR (n + 9) AV).bin _ _ _ _ = _
  simp only [B6, Cp, Bj, Bb, Bo, Bg, Cx, Dl, D7, A9, Br, B4, B7, Cs, Ca, Eg, C5, Cn, Cj, B3, Dz, De, Ef, Dq]
  refine Bk (v := .sc (.bool (decide ((pre.length : Int) < (o.fFl.length : Int))))) (fun k => rfl) ?_
  refine Hh hlt ?_
  refine Ji Bf (by decide) hl ?_
  refine I0 (ds := Ap x) (A3 rfl) rfl ?_
  refine Ux rfl (Bf _) (N1 (Df _)) fun iB1 B1 => ?_
  replace B := Bd B [⟨Ap x, true, true⟩]
  refine Ah ?_
  refine Ba (c := .sc (.int .i64 x.fId)) B1 (A3 rfl) rfl ?_
  refine Dv rfl (A8 (Cr _ _) Dc) (Ak8 (n + 7) _ x.fId) ?_
  refine Jj ?_
  apply Az ((!(Gj x.fId 1 65535)) || ((Cl (fun y : Af => y.fId == x.fId) o.fFl 0) != (pre.length : Int)))
  ·intro b2 q2
   refine Ae ((Gj x.fId 1 65535)) (fun h2 => ?_) (fun h2 => ?_)
   ·refine C3 (nF h2) ?_
    refine Ah ?_
    refine C3 (nF h2) ?_
    refine Ba (c := At Ap o.fFl) B (A3 rfl) rfl ?_
    refine C3 (nF h2) ?_
    refine Ah ?_
    refine C3 (nF h2) ?_
    refine Ba (c := .sc (.int .i64 x.fId)) B1 (A3 rfl) rfl ?_
    refine C3 (nF h2) ?_
    refine Dv rfl (A8 (Fe _ _ _) (A8 (Cr _ _) Dc)) (Tj (n + 6) (by omega) _ o.fFl x.fId hlen) ?_
    refine C3 (nF h2) ?_
    refine C3 (nF h2) ?_
    refine Bk (v := .sc (.bool ((Cl (fun y : Af => y.fId == x.fId) o.fFl 0) != (pre.length : Int)))) (fun k => rfl) ?_
    refine Bu (nF h2) (mOF q2 (nF h2)) ?_
    exact rfl
   ·refine C8 (nT h2) ?_
    refine C8 (nT h2) ?_
    refine C8 (nT h2) ?_
    refine C8 (nT h2) ?_
    refine C8 (nT h2) ?_
    refine C8 (nT h2) ?_
    refine C8 (nT h2) ?_
    refine Bv (nT h2) (mOT q2 (nT h2)) ?_
    exact rfl
  intro b2 q2
  apply Az (b2 || (!(C7 x.fM)))
  ·intro b3 q3
   refine Ae (b2) (fun h3 => ?_) (fun h3 => ?_)
   ·refine C8 h3 ?_
    refine C8 h3 ?_
    refine C8 h3 ?_
    refine C8 h3 ?_
    refine Bv h3 (mOT q3 h3) ?_
    exact rfl
   ·refine C3 h3 ?_
    refine Ah ?_
    refine C3 h3 ?_
    refine Qc (ds := A1 x.fM) B1 (A3 rfl) rfl ?_
    refine C3 h3 ?_
    refine Dv rfl (A8 (E2 _ (Ff _)) Dc) (We (n + 3) (by omega) _ x.fM (by assumption)) ?_
    refine C3 h3 ?_
    refine Jj ?_
    refine Bu h3 (mOF q3 h3) ?_
    exact rfl
  intro b3 q3
  refine Ae (b3) (fun h4 => ?_) (fun h4 => ?_)
  ·refine Hh h4 ?_
   exact Es (by (try clear ih); (try clear hlt); (try clear hix); (try clear hm); (try clear hmem); (try clear hpl); (try clear hsl); (try clear hlen); (try clear hqn); (try clear hqs); (try clear hs); (try clear B); (try clear B1); (try clear B2); (try clear hl); subst_vars; rw [N7]; first | done | (cases h2 : C7 x.fM <;> (try rw [AhB x h2]) <;> cases h1 : Gj x.fId 1 65535 <;> cases h4 : Hj pre x <;> cases h5 : (x.fM.fQos == 0) <;> cases h6 : ((x.fM.fQos == 1) == (x.fSt == 1)) <;> cases h7 : Gj x.fSt 1 3 <;> simp [h1, h2, h4, h5, h6, h7] at * <;> contradiction))
  ·refine Hz h4 ?_
   refine Ah ?_
   refine Ah ?_
   refine Ba (c := .sc (.int .i64 x.fM.fQos)) B1 (A3 rfl) rfl ?_
   refine Bk (v := .sc (.bool (x.fM.fQos == 0))) (fun k => rfl) ?_
   apply Az ((x.fM.fQos == 0) || (!((x.fM.fQos == 1) == (x.fSt == 1))))
   ·intro b5 q5
    refine Ae ((x.fM.fQos == 0)) (fun h5 => ?_) (fun h5 => ?_)
    ·refine C8 h5 ?_
     refine C8 h5 ?_
     refine C8 h5 ?_
     refine C8 h5 ?_
     refine C8 h5 ?_
     refine C8 h5 ?_
     refine C8 h5 ?_
     refine C8 h5 ?_
     refine Bv h5 (mOT q5 h5) ?_
     exact rfl
    ·refine C3 h5 ?_
     refine Ah ?_
     refine C3 h5 ?_
     refine Ah ?_
     refine C3 h5 ?_
     refine Ba (c := .sc (.int .i64 x.fM.fQos)) B1 (A3 rfl) rfl ?_
     refine C3 h5 ?_
     refine Bk (v := .sc (.bool (x.fM.fQos == 1))) (fun k => rfl) ?_
     refine C3 h5 ?_
     refine Ah ?_
     refine C3 h5 ?_
     refine Ba (c := .sc (.int .i64 x.fSt)) B1 (A3 rfl) rfl ?_
     refine C3 h5 ?_
     refine Bk (v := .sc (.bool (x.fSt == 1))) (fun k => rfl) ?_
     refine C3 h5 ?_
     refine Gc (v := .sc (.bool (!((x.fM.fQos == 1) == (x.fSt == 1))))) (fun k => rfl) ?_
     refine Bu h5 (mOF q5 h5) ?_
     exact rfl
   intro b5 q5
   apply Az (b5 || (!(Gj x.fSt 1 3)))
   ·intro b6 q6
    refine Ae (b5) (fun h6 => ?_) (fun h6 => ?_)
    ·refine C8 h6 ?_
     refine C8 h6 ?_
     refine C8 h6 ?_
     refine C8 h6 ?_
     refine Bv h6 (mOT q6 h6) ?_
     exact rfl
    ·refine C3 h6 ?_
     refine Ah ?_
     refine C3 h6 ?_
     refine Ba (c := .sc (.int .i64 x.fSt)) B1 (A3 rfl) rfl ?_
     refine C3 h6 ?_
     refine Dv rfl (A8 (Cr _ _) (A8 (Cr _ _) (A8 (Cr _ _) Dc))) (Kx (n + 8) _ x.fSt 1 3) ?_
     refine C3 h6 ?_
     refine Jj ?_
     refine Bu h6 (mOF q6 h6) ?_
     exact rfl
   intro b6 q6
   refine Ae (b6) (fun h7 => ?_) (fun h7 => ?_)
   ·refine Hh h7 ?_
    exact Es (by (try clear ih); (try clear hlt); (try clear hix); (try clear hm); (try clear hmem); (try clear hpl); (try clear hsl); (try clear hlen); (try clear hqn); (try clear hqs); (try clear hs); (try clear B); (try clear B1); (try clear B2); (try clear hl); subst_vars; rw [N7]; first | done | (cases h2 : C7 x.fM <;> (try rw [AhB x h2]) <;> cases h1 : Gj x.fId 1 65535 <;> cases h4 : Hj pre x <;> cases h5 : (x.fM.fQos == 0) <;> cases h6 : ((x.fM.fQos == 1) == (x.fSt == 1)) <;> cases h7 : Gj x.fSt 1 3 <;> simp [h1, h2, h4, h5, h6, h7] at * <;> contradiction))
   ·refine Hz h7 ?_
    refine Bk (v := .sc (.int .i64 (IntKind.i64.wrap ((pre.length : Int) + 1)))) (fun k => rfl) ?_
    rw [hix]
    refine (P1 n hn ty o hlen hsl hqn hqs i1 r (pre ++ [x]) m _ B (by rw [hl]; simp) (by simpa using hm)).trans (congrArg (fun b => some (AV.sc (Value.bool b))) ?_)
    (try clear ih); (try clear hlt); (try clear hix); (try clear hm); (try clear hmem); (try clear hpl); (try clear hsl); (try clear hlen); (try clear hqn); (try clear hqs); (try clear hs); (try clear B); (try clear B1); (try clear B2); (try clear hl); subst_vars; rw [N7]; first | done | (cases h2 : C7 x.fM <;> (try rw [AhB x h2]) <;> cases h1 : Gj x.fId 1 65535 <;> cases h4 : Hj pre x <;> cases h5 : (x.fM.fQos == 0) <;> cases h6 : ((x.fM.fQos == 1) == (x.fSt == 1)) <;> cases h7 : Gj x.fSt 1 3 <;> simp [h1, h2, h4, h5, h6, h7] at * <;> contradiction)
theorem Ur (o : Ci) : ∀ (r pre : List Af), N7 o pre r = (Rr pre r && (Gj o.fLast 0 65535 && decide ((o.fFl.length : Int) ≤ 3) && Fx o.fQ))
 | [], pre => by rw [N7, Rr, Bool.true_and]
 | x :: r, pre => by
  rw [N7, Rr, Ur o r]
  simp only [Bool.and_assoc]
theorem Af0 (n : Nat) (hn : 1048576 < n) (ty : Nat) (o : Ci) (b0 : Ev o ≤ 1048576) : Bt E0 (n + 10) ty 75 [.agg (Ar o)] = some (.sc (.bool (Iz o))) := by
 obtain ⟨⟨h1, h2⟩, h3, h4⟩ := Y3 o b0
 rw [Ax, Ajj, f75]
 simp only [B6]
 refine L0 (Fq _) fun i e hi => ?_
 have key := Qa (n + 1) (by omega) ty o h1 h2 h3 h4 i o.fFl [] (n + 9) _ hi rfl (by omega)
 rw [Ur] at key
 exact key
theorem AeK (n : Nat) (hn : 1048576 < n) (ty : Nat) (o : Ci) (b0 : Ev o ≤ 1048576) : Bt E0 (n + 10) ty 74 [.agg (Ar o)] = some (.sc (.bool (Iz o))) := by
 obtain ⟨⟨h1, h2⟩, h3, h4⟩ := Y3 o b0
 rw [Ax, Aji, f74]
 simp only [B6, Bj, Bb, B7]
 refine L0 (Fq _) fun i e hi => ?_
 refine Ah ?_
 refine Ba (c := At Ap o.fFl) hi (A3 rfl) rfl ?_
 refine Et ?_
 have key := P1 n hn ty o h1 h2 h3 h4 i o.fFl [] (n + 9) _ hi rfl (by omega)
 rw [Ur] at key
 exact key
end
section
open Go
variable {β : Type} {n : Nat} {r : Option β}
theorem Ta (s : ByteArray) (hs : s.size ≤ 140737488355328) (H : Ab) (K : KO β) : K3 1 1 .nl (As s) H K = K (.sl H.length 0 s.size 1) (H ++ [⟨Bm s, true, true⟩]) := by
 have e1 : Cf H 1 (As s) = some (Bm s) := by
  show (if (Bm s).length = s.size * 1 then some (Bm s) else none) = _
  rw [if_pos (by rw [Fi]; omega)]
 have e2 : Cf H 1 .nl = some [] := rfl
 have e3 : G4 (As s) = some s.size := rfl
 simp only [K3, G4, e1, e2, Li, Option.bind_some, e3]
 rw [if_pos (by omega), if_pos (Uc s)]
 simp only [D2, Nat.zero_add, List.nil_append]
theorem T0 {H : Ab} {id d : Nat} {s : ByteArray} (h : H[id]? = some ⟨Bm s, true, true⟩) : Cc Ag E0.tp H (d + 2) 31 (.sl id 0 s.size 1) = some (As s, [id]) := by
 rw [Gi]
 have ha : F6 H id = true := by simp only [F6, h]
 have hr : An H id 0 (s.size * 1) = some (Bm s) := by
  have hl := Fi s
  simp only [An, h, if_true, Nat.zero_add, Nat.mul_one, hl, Nat.le_refl, List.drop_zero]
  rw [← hl, List.take_length]
 obtain ⟨i, j, h1, h2, h3, h4⟩ := Id
 simp only [h1, h2, Option.bind_some, h3, if_true, ha, hr]
 have ho := U3 (ti := Ag) (tp := E0.tp) (H := H) (d := d) (List.replicate s.size j.cty).flatten (bv s) (by rw [Ai1]; simp [h4])
 rw [Io, ho, Option.bind_some, ← Io]
theorem AeU (n : Nat) (hn : 1 < n) (s : ByteArray) (hs : s.size ≤ 1048576) : Bt E0 (n + 1) 31 266 [.ro 1 [As s]] = some (As s) := by
 rw [Ax, AgC, f266]
 simp only [B7]
 refine Et ?_
 obtain ⟨m, rfl⟩ : ∃ m, n = m + 2 := ⟨n - 2, by omega⟩
 rw [L7]
 simp only [Bg, A9, Ca, Bb, De]
 refine Bk (v := .sc (.bool true)) (fun k => rfl) ?_
 refine Hh rfl ?_
 have e1 : ∀ K : AV → Option AV, Cg 1 (.ro 1 [As s]) (.sc (.int .i64 0)) K = K (.rp [As s]) := fun K => Kk 1 1 [As s] 0 K (by decide) (by simp)
 rw [e1, Jo, Ta s (by omega)]
 refine Bk (v := .sc (.int .i64 1)) (fun k => rfl) ?_
 rw [L7]
 simp only [Bg, A9]
 refine Bk (v := .sc (.bool false)) (fun k => rfl) ?_
 refine Hz rfl ?_
 rw [Aw, T0 (d := 6) (s := s) rfl]
 rfl
theorem Ahz {H : Ab} {id d : Nat} {m : Ej} (h : H[id]? = some ⟨Bm m.fBody, true, true⟩) : Cq (Cc Ag E0.tp H (d + 2)) G8 [.sc (.string m.fTopic), .sl id 0 m.fBody.size 1, .sc (.int .i64 m.fQos), .sc (.bool m.fRetain)] = some (A1 m, [id]) := by
 have hb := T0 (d := d) h
 simp only [G8, Cq, Qr, hb, Option.bind_some, List.nil_append, List.append_nil]
 rfl
theorem Sd {H : Ab} {id : Nat} {m : Ej} (h : H[id]? = some ⟨Bm m.fBody, true, true⟩) : Aw Ag E0.tp 85 H (.agg [.sc (.string m.fTopic), .sl id 0 m.fBody.size 1, .sc (.int .i64 m.fQos), .sc (.bool m.fRetain)]) = some (.agg (A1 m)) := by
 obtain ⟨i, hi, hc⟩ := Qb
 rw [Aw, Fu, hi, Option.bind_some, hc, Ahz (d := 5) h]
 rfl
end
section
open Go
variable {β : Type} {n : Nat} {r : Option β}
theorem AaN (n : Nat) (m : Ej) (hs : m.fBody.size ≤ 1048576) : Bt E0 (n + 1) 85 208 [.agg (A1 m)] = some (.agg (A1 m)) := by
 rw [Ax, Agz, f208]
 simp only [B6, Cp, Bj, Bb, De, B3, Bo, K4]
 rw [E3 _ _ _ (Ff m)]
 simp only [List.length_nil, List.nil_append, List.length_cons, Nat.zero_add]
 have hH : ([⟨A1 m, true, true⟩] ++ [⟨S3, true, true⟩] : Ab)[0]? = some ⟨A1 m, true, true⟩ := rfl
 refine Ah ?_
 refine Ba (c := .sc (.string m.fTopic)) hH (A3 rfl) rfl ?_
 refine Ah ?_
 refine Ba (c := As m.fBody) hH (A3 rfl) rfl ?_
 refine Ah ?_
 refine Ba (c := .sc (.int .i64 m.fQos)) hH (A3 rfl) rfl ?_
 refine Ah ?_
 refine Ba (c := .sc (.bool m.fRetain)) hH (A3 rfl) rfl ?_
 rw [Ta _ (by omega)]
 refine Pt (cs := [.sc (.string m.fTopic), .sl 2 0 m.fBody.size 1, .sc (.int .i64 m.fQos), .sc (.bool m.fRetain)]) rfl ?_
 rw [He 4 1 0 _ ⟨S3, true, true⟩ [.sc (.string m.fTopic), .sl 2 0 m.fBody.size 1, .sc (.int .i64 m.fQos), .sc (.bool m.fRetain)] _ _ rfl rfl rfl (by decide) rfl]
 refine Qc (ds := [.sc (.string m.fTopic), .sl 2 0 m.fBody.size 1, .sc (.int .i64 m.fQos), .sc (.bool m.fRetain)]) (cs := [.sc (.string m.fTopic), .sl 2 0 m.fBody.size 1, .sc (.int .i64 m.fQos), .sc (.bool m.fRetain)]) rfl (Nat.le_refl _) rfl ?_
 exact Sd rfl
theorem V1 (n : Nat) (hn : 1 < n) (m : Ej) (hs : m.fBody.size ≤ 1048576) : Bt E0 (n + 2) 85 211 [.agg (A1 m)] = some (.agg (A1 m)) := by
 rw [Ax, Ag2, f211]
 simp only [B6, Cp, Bj, Bb, De, B3, Bo, Cj, K4]
 rw [E3 _ _ _ (Ff m)]
 simp only [List.length_nil, List.nil_append, List.length_cons, Nat.zero_add]
 have hH : ([⟨A1 m, true, true⟩] ++ [⟨S3, true, true⟩] : Ab)[0]? = some ⟨A1 m, true, true⟩ := rfl
 refine Ah ?_
 refine Ba (c := As m.fBody) hH (A3 rfl) rfl ?_
 refine Pt (cs := [As m.fBody]) rfl ?_
 simp only [D2]
 rw [Dd (vs := [.ro 1 [As m.fBody]]) rfl rfl (AeU n hn m.fBody hs)]
 obtain ⟨i, j, h1, h2, h3, h4⟩ := Id
 have hi : ∀ N, A2 Ag E0.tp N 31 (As m.fBody) = (.sl N 0 m.fBody.size 1, [⟨Bm m.fBody, true, true⟩]) := by
  intro N
  show A2 Ag E0.tp N 31 (.ro m.fBody.size (Bm m.fBody)) = _
  simp only [A2, h1, Option.bind_some, h2, Option.getD_some, h3, Io, Rx]
 rw [hi]
 simp only
 refine Ah ?_
 rw [He 1 0 (0 + 1) _ ⟨A1 m, true, true⟩ [.sl 3 0 m.fBody.size 1] _ _ rfl rfl rfl (A3 rfl) rfl]
 refine Qc (ds := [.sc (.string m.fTopic), .sl 3 0 m.fBody.size 1, .sc (.int .i64 m.fQos), .sc (.bool m.fRetain)]) (cs := [.sc (.string m.fTopic), .sl 3 0 m.fBody.size 1, .sc (.int .i64 m.fQos), .sc (.bool m.fRetain)]) rfl (Nat.le_refl _) rfl ?_
 rw [He 4 1 0 _ ⟨S3, true, true⟩ [.sc (.string m.fTopic), .sl 3 0 m.fBody.size 1, .sc (.int .i64 m.fQos), .sc (.bool m.fRetain)] _ _ rfl rfl rfl (by decide) rfl]
 refine Qc (ds := [.sc (.string m.fTopic), .sl 3 0 m.fBody.size 1, .sc (.int .i64 m.fQos), .sc (.bool m.fRetain)]) (cs := [.sc (.string m.fTopic), .sl 3 0 m.fBody.size 1, .sc (.int .i64 m.fQos), .sc (.bool m.fRetain)]) rfl (Nat.le_refl _) rfl ?_
 exact Sd rfl
theorem Tg {d w te g bytes k : Nat} {cty : List Nat} {H X0 : Ab} {x : AV} {cells cs z : List AV} {args vs : List AV} {K : KO β} (hx : OwnS d H w cty x k cells) (hh : Cw g = false) (hv : args.mapM (B8 (H ++ X0) 8) = some vs) (ht : Bt E0 n te g vs = some (.agg cs))
  (hte : ∃ i, Ag te = some i ∧ i.cty = cty) (hok : Ed (F7 Ag E0.tp d) cty cs) (hfl : cs.all E6 = true) (hw : cs.length = w) (hz : z.length = w) (hb : (k + 1) * bytes ≤ 140737488355328) (h : ∀ x' H', OwnS d H' w cty x' (k + 1) (cells ++ cs) → K x' H' = r) :
  ((PR n β).call te (.fn g [] []) args (H ++ X0) fun t G => (Ez z [(0, w, t)]).bind fun ct => D2 1 w ct true G fun y G => K3 w bytes x y G K) = r := by
 obtain ⟨i, hi, rfl⟩ := hte
 rw [Dd hh hv ht, Gg, hi, Option.getD_some]
 simp only
 have hlen := D8 (ti := Ag) (tp := E0.tp) (H ++ X0).length i.cty cs
 have hleaf := F8 (ti := Ag) (tp := E0.tp) cs (H ++ X0).length i.cty hfl
 have hf : Ez z [(0, w, .agg (Aj Ag E0.tp (H ++ X0).length i.cty cs).1)] = some (Aj Ag E0.tp (H ++ X0).length i.cty cs).1 := by
  have hc : Bz (.agg (Aj Ag E0.tp (H ++ X0).length i.cty cs).1) = some (Aj Ag E0.tp (H ++ X0).length i.cty cs).1 := by
   show (if _ then _ else none) = _
   rw [if_pos hleaf]
  have hs : Ch z 0 (Aj Ag E0.tp (H ++ X0).length i.cty cs).1 = (Aj Ag E0.tp (H ++ X0).length i.cty cs).1 := by
   unfold Ch
   rw [List.take_zero, List.nil_append, List.drop_of_length_le (by rw [hlen, hw, hz]; omega), List.append_nil]
  show ((Bz (.agg _)).bind fun cs => if cs.length = w then (if 0 + w ≤ z.length then Ez (Ch z 0 cs) [] else none) else none) = _
  rw [hc, Option.bind_some, if_pos (by rw [hlen, hw]), if_pos (by omega), hs]
  rfl
 rw [hf, Option.bind_some]
 have key := Aad (H := H) (X := X0 ++ (Aj Ag E0.tp (H ++ X0).length i.cty cs).2) (bytes := bytes) (er := (Aj Ag E0.tp (H ++ X0).length i.cty cs).1) (ec := cs) (eids := List.range' (H ++ X0).length (Aj Ag E0.tp (H ++ X0).length i.cty cs).2.length) (K := K) (r := r) hx (by rw [hlen, hw]) hleaf (by
   have := AaU (d := d) (H := H ++ X0) hok
   rwa [List.append_assoc] at this) List.nodup_range' (fun j hj => by
   rw [List.mem_range'_1] at hj
   have := hj.1
   simp at this
   omega) hb h
 rw [← List.append_assoc] at key
 exact key
theorem Wh (n : Nat) (hn : 1048576 < n) (l : List Ej) (hl : l.length ≤ 1048576) (hs : ∀ x ∈ l, x.fBody.size ≤ 1048576) : ∀ (t pre : List Ej) (m : Nat) (x : AV) (H : Ab), l = pre ++ t → t.length < m → OwnS 7 H 4 G8 x pre.length (pre.map A1).flatten →
  Kh (PR (n + 2) AV) (n + 2) (fun x H => Aw Ag E0.tp 28 H x) m (At A1 l) x (.sc (.int .i64 pre.length)) H = some (At A1 l)
 | [], pre, m + 1, x, H, he, hm, hx => by
  rw [List.append_nil] at he
  subst he
  rw [Kh]
  simp only [B7, Bg, A9]
  rw [Dg, Ct, Bl, if_neg (by simp)]
  obtain ⟨ids, ho, hno⟩ := U4 (d := 7) (tyS := 28) Pq hx
  rw [Aw, ho, Option.bind_some, if_pos hno]
 | y :: t, pre, m + 1, x, H, he, hm, hx => by
  have hlt : pre.length < l.length := by rw [he]; simp
  have hy : y ∈ l := by rw [he]; simp
  rw [Kh]
  simp only [B7, Bg, A9, Ca, Bb, B3, Cj, De]
  rw [Dg, Ct, Bl, if_pos (by simpa using hlt)]
  have hel := fun k => La (β := AV) F4 (by decide) pre y t k
  rw [← he] at hel
  rw [hel, Mp 4 _ _ _ _ (F4 y)]
  have hst := fun K h => Tg (β := AV) (n := n + 2) (X0 := []) (bytes := 56) (z := S3) (K := K) (r := some (At A1 l)) hx rfl (A8 (E2 _ (Ff y)) Dc) (AaN (n + 1) y (hs y hy)) Qb (Kp 5 y) (Ff y) (F4 y) rfl (by omega) h
  simp only [List.append_nil] at hst
  refine hst _ fun x' H' hx' => ?_
  rw [Dt _ _ (by omega)]
  have ih := Wh n hn l hl hs t (pre ++ [y]) m x' H' (by rw [he]; simp) (by simpa using hm) (by
   rw [List.length_append, List.length_singleton, List.map_append, List.flatten_append]
   simpa using hx')
  rw [List.length_append, List.length_singleton] at ih
  exact ih
theorem Wg (n : Nat) (hn : 1048576 < n) (l : List Ej) (hl : l.length ≤ 1048576) (hs : ∀ x ∈ l, x.fBody.size ≤ 1048576) : Bt E0 (n + 3) 28 207 [At A1 l] = some (At A1 l) := by
 rw [Ax, Agy, f207]
 exact Wh n hn l hl hs l [] (n + 2) .nl [] rfl (by omega) (OwnS.nil _ _ _ _)
theorem Mo (n : Nat) (hn : 1048576 < n) (l : List Ej) (hl : l.length ≤ 1048576) (hs : ∀ x ∈ l, x.fBody.size ≤ 1048576) : ∀ (t pre : List Ej) (m : Nat) (x : AV) (H : Ab), l = pre ++ t → t.length < m → OwnS 7 H 4 G8 x pre.length (pre.map A1).flatten →
  Ki (PR (n + 2) AV) (n + 2) (fun x H => Aw Ag E0.tp 28 H x) m x (At A1 l) (.sc (.int .i64 l.length)) (.sc (.int .i64 pre.length)) H = some (At A1 l)
 | [], pre, m + 1, x, H, he, hm, hx => by
  rw [List.append_nil] at he
  subst he
  rw [Ki]
  simp only [B7, Bg, A9]
  rw [Ct, Bl, if_neg (by simp)]
  obtain ⟨ids, ho, hno⟩ := U4 (d := 7) (tyS := 28) Pq hx
  rw [Aw, ho, Option.bind_some, if_pos hno]
 | y :: t, pre, m + 1, x, H, he, hm, hx => by
  have hlt : pre.length < l.length := by rw [he]; simp
  have hy : y ∈ l := by rw [he]; simp
  rw [Ki]
  simp only [B7, Bg, A9, Ca, Bb, B3, Cj, De, Cp, Bo]
  rw [Ct, Bl, if_pos (by simpa using hlt)]
  have hel := fun k => La (β := AV) F4 (by decide) pre y t k
  rw [← he] at hel
  rw [hel, Mp 4 _ _ _ _ (F4 y)]
  refine Ux rfl (F4 _) (N1 (Ff _)) fun i hi => ?_
  refine Fh hi (F4 _) ?_
  refine Tg (β := AV) (n := n + 2) (X0 := [⟨A1 y, true, true⟩]) (bytes := 56) (z := S3) (r := some (At A1 l)) hx rfl (A8 (E2 _ (Ff y)) Dc) (V1 n (by omega) y (hs y hy)) Qb (Kp 5 y) (Ff y) (F4 y) rfl (by omega) fun x' H' hx' => ?_
  rw [Dt _ _ (by omega)]
  have ih := Mo n hn l hl hs t (pre ++ [y]) m x' H' (by rw [he]; simp) (by simpa using hm) (by
   rw [List.length_append, List.length_singleton, List.map_append, List.flatten_append]
   simpa using hx')
  rw [List.length_append, List.length_singleton] at ih
  exact ih
theorem Tf (n : Nat) (hn : 1048576 < n) (l : List Ej) (hl : l.length ≤ 1048576) (hs : ∀ x ∈ l, x.fBody.size ≤ 1048576) : Bt E0 (n + 3) 28 210 [At A1 l] = some (At A1 l) := by
 rw [Ax, Ag1, f210]
 simp only [B7]
 refine Et ?_
 exact Mo n hn l hl hs l [] (n + 2) .nl [] rfl (by omega) (OwnS.nil _ _ _ _)
end
section
open Go
def OwnSI (d : Nat) (H : Ab) (w : Nat) (cty : List Nat) (x : AV) (k : Nat) (cells : List AV) (ids : List Nat) : Prop :=
 (x = .nl ∧ k = 0 ∧ cells = [] ∧ ids = []) ∨ ∃ id raw is, ids = id :: is ∧ x = .sl id 0 k w ∧ H[id]? = some ⟨raw, true, true⟩ ∧ raw.length = k * w ∧ OwnC d H (List.replicate k cty).flatten raw cells is ∧ (id :: is).Nodup
theorem OwnSI.nil (d : Nat) (H : Ab) (w : Nat) (cty : List Nat) : OwnSI d H w cty .nl 0 [] [] := .inl ⟨rfl, rfl, rfl, rfl⟩
theorem OwnSI.lt {d : Nat} {H : Ab} {w : Nat} {cty : List Nat} {x : AV} {k : Nat} {cells : List AV} {ids : List Nat} (h : OwnSI d H w cty x k cells ids) : ∀ i ∈ ids, i < H.length := by
 rcases h with ⟨_, _, _, rfl⟩ | ⟨id, raw, is, rfl, _, h2, _, h4, _⟩
 ·intro i hi
  cases hi
 ·intro i hi
  rcases List.mem_cons.1 hi with rfl | hi
  ·exact (List.getElem?_eq_some_iff.1 h2).1
  ·exact h4.lt i hi
theorem OwnSI.nodup {d : Nat} {H : Ab} {w : Nat} {cty : List Nat} {x : AV} {k : Nat} {cells : List AV} {ids : List Nat} (h : OwnSI d H w cty x k cells ids) : ids.Nodup := by
 rcases h with ⟨_, _, _, rfl⟩ | ⟨id, raw, is, rfl, _, h2, _, h4, h5⟩
 ·exact List.nodup_nil
 ·exact h5
theorem OwnSI.frame {d : Nat} {H H' : Ab} {w : Nat} {cty : List Nat} {x : AV} {k : Nat} {cells : List AV} {ids : List Nat} (h : OwnSI d H w cty x k cells ids) (hs : ∀ i ∈ ids, H'[i]? = H[i]?) : OwnSI d H' w cty x k cells ids := by
 rcases h with h | ⟨id, raw, is, rfl, h1, h2, h3, h4, h5⟩
 ·exact .inl h
 ·exact .inr ⟨id, raw, is, rfl, h1, by rw [hs id List.mem_cons_self]; exact h2, h3, h4.frame fun i hi => hs i (List.mem_cons_of_mem _ hi), h5⟩
theorem OwnSI.grow {d : Nat} {H : Ab} {w : Nat} {cty : List Nat} {x : AV} {k : Nat} {cells : List AV} {ids : List Nat} (h : OwnSI d H w cty x k cells ids) (X : List Fz) : OwnSI d (H ++ X) w cty x k cells ids :=
 h.frame fun i hi => List.getElem?_append_left (h.lt i hi)
theorem OwnSI.res {H : Ab} {d w tyS k : Nat} {cty : List Nat} {x : AV} {cells : List AV} {ids : List Nat} (h : OwnSI d H w cty x k cells ids) (hty : ∃ i j, Ag tyS = some i ∧ Ag i.elem = some j ∧ j.size = w ∧ j.cty = cty) : Cc Ag E0.tp H (d + 1) tyS x = some (.ro k cells, ids) := by
 rcases h with ⟨rfl, rfl, rfl, rfl⟩ | ⟨id, raw, is, rfl, rfl, h2, h3, h4, h5⟩
 ·rfl
 ·obtain ⟨i, j, e1, e2, rfl, rfl⟩ := hty
  rw [Gi]
  have ha : F6 H id = true := by simp only [F6, h2]
  have hr : An H id 0 (k * j.size) = some raw := by
   simp only [An, h2, if_true, Nat.zero_add, h3, Nat.le_refl, List.drop_zero]
   rw [← h3, List.take_length]
  have h4' : Cq (Cc Ag E0.tp H d) (List.replicate k j.cty).flatten raw = some (cells, is) := h4
  simp only [e1, e2, Option.bind_some, if_true, ha, hr, h4']
variable {β : Type} {n : Nat} {r : Option β}
theorem Ade {d : Nat} {H X : Ab} {w bytes : Nat} {cty : List Nat} {x : AV} {k : Nat} {cells er ec : List AV} {ids eids : List Nat} {K : KO β} (hx : OwnSI d H w cty x k cells ids) (hw : er.length = w) (hl : er.all A4 = true)
  (he : OwnC d (H ++ X) cty er ec eids) (hn : eids.Nodup) (hge : ∀ i ∈ eids, H.length ≤ i) (hb : (k + 1) * bytes ≤ 140737488355328)
  (h : ∀ x' H' ids', OwnSI d H' w cty x' (k + 1) (cells ++ ec) ids' → (∀ i ∈ ids', i ∈ ids ∨ H.length ≤ i) → (∀ i, i < H.length → i ∉ ids → H'[i]? = H[i]?) → H.length ≤ H'.length → K x' H' = r) :
  D2 1 w er true (H ++ X) (fun y G => K3 w bytes x y G K) = r := by
 have hy : ∀ G : Ab, Cf (G ++ [⟨er, true, true⟩]) w (.sl G.length 0 1 w) = some er := by
  intro G
  simp only [Cf, if_true, Nat.one_mul, An, Jn G _ [], Nat.zero_add, hw, Nat.le_refl, List.drop_zero]
  rw [← hw, List.take_length]
 rcases hx with ⟨rfl, rfl, rfl, rfl⟩ | ⟨id, raw, is, rfl, rfl, h2, h3, h4, h5⟩
 ·simp only [D2, K3, G4, Option.bind_some, hy]
  rw [show Cf (H ++ X ++ [⟨er, true, true⟩]) w .nl = some [] from rfl]
  simp only [Option.bind_some, Li]
  rw [if_pos hb, if_pos hl]
  refine h _ _ (_ :: eids) (.inr ⟨_, er, eids, rfl, rfl, ?_, by simp [hw], ?_, ?_⟩) (fun i hi => .inr ?_) (fun i hi _ => ?_) (by simp)
  ·rw [List.getElem?_append_right (Nat.le_refl _), Nat.sub_self]
   rfl
  ·simp only [Nat.zero_add, List.replicate_one, List.flatten_cons, List.flatten_nil, List.append_nil, List.nil_append]
   exact (he.grow _).grow _
  ·rw [List.nodup_cons]
   refine ⟨fun hm => ?_, hn⟩
   have := he.lt _ hm
   simp at this
   omega
  ·rcases List.mem_cons.1 hi with rfl | hi
   ·simp [Nat.add_assoc]
   ·exact hge i hi
  ·rw [List.append_assoc, List.append_assoc, List.getElem?_append_left hi]
 ·have hid : id < H.length := (List.getElem?_eq_some_iff.1 h2).1
  have hg : (H ++ X ++ [(⟨er, true, true⟩ : Fz)])[id]? = some ⟨raw, true, true⟩ := by
   rw [List.append_assoc, List.getElem?_append_left hid]
   exact h2
  have hcx : Cf (H ++ X ++ [⟨er, true, true⟩]) w (.sl id 0 k w) = some raw := by
   simp only [Cf, if_true, An, hg, Nat.zero_add, h3, Nat.le_refl, List.drop_zero]
   rw [← h3, List.take_length]
  simp only [D2, K3, G4, Option.bind_some, hy, hcx, Li, hg, if_true]
  rw [if_pos hb, if_pos hl]
  have hn5 := List.nodup_cons.1 h5
  have hne : ∀ i ∈ is, i ≠ id := fun i hi e => hn5.1 (e ▸ hi)
  have hne2 : ∀ i ∈ eids, i ≠ id := fun i hi e => by
   have := hge i hi
   omega
  refine h _ _ (_ :: (is ++ eids)) (.inr ⟨_, raw ++ er, is ++ eids, rfl, rfl, ?_, by simp [h3, hw, Nat.succ_mul], ?_, ?_⟩) (fun i hi => ?_) (fun i hi hni => ?_) (by simp; omega)
  ·rw [List.getElem?_append_right (Nat.le_refl _), Nat.sub_self]
   rfl
  ·have e : (List.replicate (k + 1) cty).flatten = (List.replicate k cty).flatten ++ cty := by
    rw [List.replicate_succ', List.flatten_append]
    simp
   rw [e]
   refine OwnC.append ?_ ?_
   ·refine OwnC.grow (OwnC.frame (H := H ++ X ++ [⟨er, true, true⟩]) ((h4.grow X).grow _) fun i hi => ?_) _
    rw [List.getElem?_set_ne (fun e => hne i hi e.symm)]
   ·refine OwnC.grow (OwnC.frame (H := H ++ X ++ [⟨er, true, true⟩]) (he.grow _) fun i hi => ?_) _
    rw [List.getElem?_set_ne (fun e => hne2 i hi e.symm)]
  ·rw [List.nodup_cons]
   refine ⟨fun hm => ?_, ?_⟩
   ·rcases List.mem_append.1 hm with hm | hm
    ·have := h4.lt _ hm
     simp at this
     omega
    ·have := he.lt _ hm
     simp at this
     omega
   ·rw [List.nodup_append]
    refine ⟨hn5.2, hn, fun a ha b hb e => ?_⟩
    have h1 := h4.lt a ha
    have h2 := hge b hb
    omega
  ·rcases List.mem_cons.1 hi with rfl | hi
   ·right
    simp [Nat.add_assoc]
   ·rcases List.mem_append.1 hi with hi | hi
    ·exact .inl (List.mem_cons_of_mem _ hi)
    ·exact .inr (hge i hi)
  ·have : i ≠ id := fun e => hni (e ▸ List.mem_cons_self)
   rw [List.getElem?_append_left (by simp; omega), List.getElem?_set_ne (fun e => this e.symm), List.append_assoc, List.getElem?_append_left hi]
theorem Ae7 {w : Nat} {z ys : List AV} (hz : z.length = w) (hy : ys.length = w) (hl : ys.all A4 = true) : Ez z [(0, w, .agg ys)] = some ys := by
 have hc : Bz (.agg ys) = some ys := by
  show (if ys.all A4 then some ys else none) = _
  rw [if_pos hl]
 have hs : Ch z 0 ys = ys := by
  unfold Ch
  rw [List.take_zero, List.nil_append, List.drop_of_length_le (by rw [hy, hz]; omega), List.append_nil]
 show ((Bz (.agg ys)).bind fun cs => if cs.length = w then (if 0 + w ≤ z.length then Ez (Ch z 0 cs) [] else none) else none) = _
 rw [hc, Option.bind_some, if_pos hy, if_pos (by omega), hs]
 rfl
end
section
open Go
variable {β : Type} {n : Nat} {r : Option β}
theorem AhH {α : Type} {w : Nat} {enc : α → List AV} {l pre t : List α} {x : α} {K : AV → Option β} (hw : ∀ x, (enc x).length = w) (h0 : 0 < w) (hl : l = pre ++ x :: t) (h : K (.rp (enc x ++ (t.map enc).flatten)) = r) : Cg w (At enc l) (.sc (.int .i64 (pre.length : Int))) (fun t => K t) = r := by
 subst hl
 exact (La (β := β) hw h0 pre x t (fun t => K t)).trans h
theorem AeP (N : Nat) (s : ByteArray) : A2 Ag E0.tp N 31 (As s) = (.sl N 0 s.size 1, [⟨Bm s, true, true⟩]) := by
 obtain ⟨i, j, h1, h2, h3, h4⟩ := Id
 show A2 Ag E0.tp N 31 (.ro s.size (Bm s)) = _
 simp only [A2, h1, Option.bind_some, h2, Option.getD_some, h3, Io, Rx]
theorem AeQ (N : Nat) (m : Ej) : Aj Ag E0.tp N G8 (A1 m) = ([.sc (.string m.fTopic), .sl N 0 m.fBody.size 1, .sc (.int .i64 m.fQos), .sc (.bool m.fRetain)], [⟨Bm m.fBody, true, true⟩]) := by
 have h := AeP N m.fBody
 show Aj Ag E0.tp N [9, 31, 3, 4] [.sc (.string m.fTopic), As m.fBody, .sc (.int .i64 m.fQos), .sc (.bool m.fRetain)] = _
 simp only [Aj, List.headD_cons, List.tail_cons, Dk, List.length_nil, Nat.add_zero, h, List.nil_append, List.append_nil]
theorem Je (N : Nat) (f : Af) : Aj Ag E0.tp N Ek (Ap f) = ([.sc (.int .i64 f.fId), .sc (.string f.fM.fTopic), .sl N 0 f.fM.fBody.size 1, .sc (.int .i64 f.fM.fQos), .sc (.bool f.fM.fRetain), .sc (.int .i64 f.fSt)], [⟨Bm f.fM.fBody, true, true⟩]) := by
 have h := AeP N f.fM.fBody
 show Aj Ag E0.tp N [3, 9, 31, 3, 4, 3] [.sc (.int .i64 f.fId), .sc (.string f.fM.fTopic), As f.fM.fBody, .sc (.int .i64 f.fM.fQos), .sc (.bool f.fM.fRetain), .sc (.int .i64 f.fSt)] = _
 simp only [Aj, List.headD_cons, List.tail_cons, Dk, List.length_nil, Nat.add_zero, h, List.nil_append, List.append_nil]
theorem P0 {te g k : Nat} {H X0 : Ab} {x : AV} {cells : List AV} {ids : List Nat} {args : List AV} {f : Af} {K : KO β} (hx : OwnSI 6 H 6 Ek x k cells ids) (hh : Cw g = false) (hv : args.mapM (B8 (H ++ X0) 8) = some [.agg (A1 f.fM)]) (ht : Bt E0 n te g [.agg (A1 f.fM)] = some (.agg (A1 f.fM)))
  (hte : ∃ i, Ag te = some i ∧ i.cty = G8) (hb : (k + 1) * 72 ≤ 140737488355328)
  (h : ∀ x' H' ids', OwnSI 6 H' 6 Ek x' (k + 1) (cells ++ Ap f) ids' → (∀ i ∈ ids', i ∈ ids ∨ H.length ≤ i) → (∀ i, i < H.length → i ∉ ids → H'[i]? = H[i]?) → H.length ≤ H'.length → K x' H' = r) :
  ((PR n β).call te (.fn g [] []) args (H ++ X0) fun t G => (Ez O2 [(0, 1, .sc (.int .i64 f.fId)), (1, 4, t), (5, 1, .sc (.int .i64 f.fSt))]).bind fun c => (Ez O2 [(0, 6, .agg c)]).bind fun ct => D2 1 6 ct true G fun y G => K3 6 72 x y G K) = r := by
 obtain ⟨i, hi, hc⟩ := hte
 rw [Dd hh hv ht, Gg, hi, Option.getD_some, hc, AeQ]
 simp only
 have hf : Ez O2 [(0, 1, .sc (.int .i64 f.fId)), (1, 4, .agg [.sc (.string f.fM.fTopic), .sl (H ++ X0).length 0 f.fM.fBody.size 1, .sc (.int .i64 f.fM.fQos), .sc (.bool f.fM.fRetain)]), (5, 1, .sc (.int .i64 f.fSt))] = some [.sc (.int .i64 f.fId), .sc (.string f.fM.fTopic), .sl (H ++ X0).length 0 f.fM.fBody.size 1, .sc (.int .i64 f.fM.fQos), .sc (.bool f.fM.fRetain), .sc (.int .i64 f.fSt)] := rfl
 rw [hf, Option.bind_some, Ae7 (w := 6) rfl rfl rfl, Option.bind_some]
 have key := Ade (H := H) (X := X0 ++ [⟨Bm f.fM.fBody, true, true⟩]) (bytes := 72) (er := (Aj Ag E0.tp (H ++ X0).length Ek (Ap f)).1) (ec := Ap f) (eids := List.range' (H ++ X0).length (Aj Ag E0.tp (H ++ X0).length Ek (Ap f)).2.length) (K := K) (r := r) hx (by rw [Je]; rfl) (by rw [Je]; rfl) (by
   have := AaU (d := 6) (H := H ++ X0) (J6 4 f)
   rw [Je] at this ⊢
   rwa [List.append_assoc] at this) List.nodup_range' (fun j hj => by
   rw [List.mem_range'_1] at hj
   have := hj.1
   simp at this
   omega) hb h
 rw [Je, ← List.append_assoc] at key
 exact key
structure OutI (H : Ab) (io i2 i1 : Nat) (o : Ci) (x q : AV) (k : Nat) (cells : List AV) (ids qids : List Nat) : Prop where
 ho : H[io]? = some ⟨[.sc (.int .i64 o.fLast), x, q], true, true⟩
 hs : OwnSI 6 H 6 Ek x k cells ids
 hq : Cc Ag E0.tp H 7 28 q = some (At A1 o.fQ, qids)
 qn : qids.Nodup
 hz : ∃ z2, H[i2]? = some ⟨z2, true, true⟩ ∧ z2.length = 3
 src : H[i1]? = some ⟨Ar o, true, true⟩
 ne : io ≠ i2
 ne1 : i1 ≠ io
 ne2 : i1 ≠ i2
 o1 : io ∉ ids
 o2 : io ∉ qids
 z1 : i2 ∉ ids
 z2 : i2 ∉ qids
 s1 : i1 ∉ ids
 dj : ∀ i ∈ qids, i ∉ ids
theorem OutI.lt {H : Ab} {io i2 i1 : Nat} {o : Ci} {x q : AV} {k : Nat} {cells : List AV} {ids qids : List Nat} (h : OutI H io i2 i1 o x q k cells ids qids) : io < H.length ∧ i2 < H.length ∧ i1 < H.length ∧ ∀ i ∈ qids, i < H.length := by
 obtain ⟨z2, hz, _⟩ := h.hz
 exact ⟨(List.getElem?_eq_some_iff.1 h.ho).1, (List.getElem?_eq_some_iff.1 hz).1, (List.getElem?_eq_some_iff.1 h.src).1, Kq 7 _ _ _ h.hq⟩
theorem OutI.put {H H' : Ab} {io i2 i1 : Nat} {o : Ci} {x x' q : AV} {k : Nat} {cells ec : List AV} {ids ids' qids : List Nat} {K : Ab → Option β} (h : OutI H io i2 i1 o x q k cells ids qids)
  (h1 : OwnSI 6 H' 6 Ek x' (k + 1) (cells ++ ec) ids') (h2 : ∀ i ∈ ids', i ∈ ids ∨ H.length ≤ i) (h3 : ∀ i, i < H.length → i ∉ ids → H'[i]? = H[i]?) (hk : ∀ H'', OutI H'' io i2 i1 o x' q (k + 1) (cells ++ ec) ids' qids → K H'' = r) :
  C2 1 (.ptr io (0 + 1)) x' H' K = r := by
 obtain ⟨l1, l2, l3, l4⟩ := h.lt
 have hlf : Bz x' = some [x'] := by
  rcases h1 with ⟨_, h0, _⟩ | ⟨id, raw, is, _, rfl, _⟩
  ·omega
  ·rfl
 have ho : H'[io]? = some ⟨[.sc (.int .i64 o.fLast), x, q], true, true⟩ := by rw [h3 io l1 h.o1]; exact h.ho
 have hio : io < H'.length := (List.getElem?_eq_some_iff.1 ho).1
 rw [He 1 io (0 + 1) x' _ [x'] H' K ho hlf rfl (A3 rfl) rfl]
 have hni : io ∉ ids' := fun hm => by
  rcases h2 io hm with h' | h'
  ·exact h.o1 h'
  ·omega
 refine hk _ ⟨?_, ?_, ?_, h.qn, ?_, ?_, h.ne, h.ne1, h.ne2, hni, h.o2, ?_, h.z2, ?_, ?_⟩
 ·rw [List.getElem?_set_self hio]
  rfl
 ·refine h1.frame fun i hi => ?_
  rw [List.getElem?_set_ne (fun (e : io = i) => hni (e ▸ hi))]
 ·refine D9 7 _ _ _ h.hq fun i hi => ?_
  rw [List.getElem?_set_ne (fun (e : io = i) => h.o2 (e ▸ hi)), h3 i (l4 i hi) (h.dj i hi)]
 ·obtain ⟨z2, hz, hl⟩ := h.hz
  exact ⟨z2, by rw [List.getElem?_set_ne h.ne, h3 i2 l2 h.z1]; exact hz, hl⟩
 ·rw [List.getElem?_set_ne (fun e => h.ne1 e.symm), h3 i1 l3 h.s1]
  exact h.src
 ·intro hm
  rcases h2 i2 hm with h' | h'
  ·exact h.z1 h'
  ·omega
 ·intro hm
  rcases h2 i1 hm with h' | h'
  ·exact h.s1 h'
  ·omega
 ·intro i hi hm
  rcases h2 i hm with h' | h'
  ·exact h.dj i hi h'
  ·have := l4 i hi
   omega
theorem OutI.fin {H : Ab} {io i2 i1 : Nat} {o : Ci} {x q : AV} {ids qids : List Nat} (h : OutI H io i2 i1 o x q o.fFl.length (o.fFl.map Ap).flatten ids qids) :
  (Bh true 3 (.ptr io 0) H fun t => C2 3 (.ptr i2 0) t H fun H => Bh true 3 (.ptr i2 0) H fun r0 => Aw Ag E0.tp 30 H r0) = some (.agg (Ar o)) := by
 obtain ⟨l1, l2, l3, l4⟩ := h.lt
 obtain ⟨z2, hz, hzl⟩ := h.hz
 have hx : A4 x = true := by
  rcases h.hs with ⟨rfl, _⟩ | ⟨id, raw, is, _, rfl, _⟩ <;> rfl
 have hq : A4 q = true := by
  have := h.hq
  cases q with
  | sc v => cases this
  | nl => rfl
  | sl => rfl
  | agg cs =>
   rw [Fu] at this
   simp only [Option.bind_eq_some_iff] at this
   obtain ⟨_, _, _, _, h3⟩ := this
   cases h3
  | tup cs =>
   rw [Hd] at this
   simp only [Option.bind_eq_some_iff] at this
   obtain ⟨_, _, _, _, h3⟩ := this
   cases h3
  | _ => simp [Cc] at this
 refine Qc (ds := [.sc (.int .i64 o.fLast), x, q]) h.ho (A3 rfl) rfl ?_
 have hc : Bz (.agg [.sc (.int .i64 o.fLast), x, q]) = some [.sc (.int .i64 o.fLast), x, q] := by
  show (if (true && (A4 x && (A4 q && true))) = true then _ else none) = _
  rw [hx, hq]
  rfl
 rw [He 3 i2 0 _ ⟨z2, true, true⟩ [.sc (.int .i64 o.fLast), x, q] H _ hz hc rfl (by show 0 + 3 ≤ z2.length; omega) rfl]
 have hs : Ch z2 0 [.sc (.int .i64 o.fLast), x, q] = [.sc (.int .i64 o.fLast), x, q] := by
  unfold Ch
  rw [List.take_zero, List.nil_append, List.drop_of_length_le (by rw [hzl]; exact Nat.le_refl _), List.append_nil]
 simp only [hs]
 refine Qc (ds := [.sc (.int .i64 o.fLast), x, q]) (cs := [.sc (.int .i64 o.fLast), x, q]) (by rw [List.getElem?_set_self l2]) (A3 rfl) rfl ?_
 have e1 := (h.hs.frame (H' := H.set i2 ⟨[.sc (.int .i64 o.fLast), x, q], true, true⟩) fun i hi => by rw [List.getElem?_set_ne (fun (e : i2 = i) => h.z1 (e ▸ hi))]).res Pp
 have e2 := D9 (H' := H.set i2 ⟨[.sc (.int .i64 o.fLast), x, q], true, true⟩) 7 _ _ _ h.hq fun i hi => by rw [List.getElem?_set_ne (fun (e : i2 = i) => h.z2 (e ▸ hi))]
 obtain ⟨i, hi, hcy⟩ := Oz
 rw [Aw, Fu, hi, Option.bind_some, hcy]
 simp only [Mx, Cq, Qr, e1, e2, Option.bind_some, List.nil_append, List.append_nil]
 rw [if_pos]
 ·rfl
 ·rw [List.nodup_append]
  exact ⟨h.hs.nodup, h.qn, fun a ha b hb e => h.dj b hb (e ▸ ha)⟩
def Sp (o : Ci) : Prop := (o.fFl.length ≤ 1048576 ∧ ∀ x ∈ o.fFl, x.fM.fBody.size ≤ 1048576) ∧ (o.fQ.length ≤ 1048576 ∧ ∀ x ∈ o.fQ, x.fBody.size ≤ 1048576)
theorem R0 (n : Nat) (hn : 1048576 < n) (o : Ci) (hs : Sp o) (io i2 i1 : Nat) (q : AV) (qids : List Nat) : ∀ (t pre : List Af) (m : Nat) (x : AV) (H : Ab) (ids : List Nat), o.fFl = pre ++ t → t.length < m → OutI H io i2 i1 o x q pre.length (pre.map Ap).flatten ids qids →
  O9 (PR (n + 3) AV) (n + 3) (fun x H => Aw Ag E0.tp 30 H x) m (.ptr i1 0) (.ptr i2 0) (.ptr io 0) (.sc (.int .i64 pre.length)) H = some (.agg (Ar o))
 | [], pre, m + 1, x, H, ids, he, hm, hi => by
  rw [List.append_nil] at he
  show (PR (n + 3) AV).fadr _ _ _ = _
  simp only [Bj, Bb, B7, Bg, A9, Bo]
  refine Ah ?_
  refine Ba (c := At Ap o.fFl) hi.src (A3 rfl) rfl ?_
  refine Et ?_
  rw [Ct, Bl, if_neg (by rw [he]; simp)]
  subst he
  exact hi.fin
 | y :: t, pre, m + 1, x, H, ids, he, hm, hi => by
  have hlt : pre.length < o.fFl.length := by rw [he]; simp
  have hy : y.fM.fBody.size ≤ 1048576 := hs.1.2 y (by rw [he]; simp)
  have hlen := hs.1.1
  show (PR (n + 3) AV).fadr _ _ _ = _
  simp only [Bj, Bb, B7, Bg, A9, Bo, Ca, B3, Cj, De]
  refine Ah ?_
  refine Ba (c := At Ap o.fFl) hi.src (A3 rfl) rfl ?_
  refine Et ?_
  rw [Ct, Bl, if_pos (by simpa using hlt)]
  refine Ah ?_
  refine Ba (c := x) hi.ho (A3 rfl) rfl ?_
  refine Ah ?_
  refine Ba (c := At Ap o.fFl) hi.src (A3 rfl) rfl ?_
  refine AhH Bf (by decide) he ?_
  refine Ho ?_
  refine Ml (c := .sc (.int .i64 y.fId)) rfl ?_
  refine Ah ?_
  refine Ba (c := At Ap o.fFl) hi.src (A3 rfl) rfl ?_
  refine AhH Bf (by decide) he ?_
  refine Ho ?_
  refine I0 (ds := A1 y.fM) (A3 rfl) rfl ?_
  refine Ah ?_
  refine Ba (c := At Ap o.fFl) hi.src (A3 rfl) rfl ?_
  refine AhH Bf (by decide) he ?_
  refine Ho ?_
  refine Ml (c := .sc (.int .i64 y.fSt)) rfl ?_
  have hst := fun K h => P0 (β := AV) (n := n + 3) (X0 := []) (f := y) (K := K) (r := some (.agg (Ar o))) hi.hs rfl (A8 (E2 _ (Ff _)) Dc) (AaN (n + 2) y.fM hy) Qb (by omega) h
  simp only [List.append_nil] at hst
  refine hst _ fun x' H' ids' h1 h2 h3 h4 => ?_
  refine Ah ?_
  refine hi.put h1 h2 h3 fun H'' hi' => ?_
  rw [Dt _ _ (by omega)]
  have ih := R0 n hn o hs io i2 i1 q qids t (pre ++ [y]) m x' H'' ids' (by rw [he]; simp) (by simpa using hm) (by
   rw [List.length_append, List.length_singleton, List.map_append, List.flatten_append]
   simpa using hi')
  rw [List.length_append, List.length_singleton] at ih
  exact ih
theorem Kg (n : Nat) (hn : 1048576 < n) (o : Ci) (hs : Sp o) (io i2 i1 : Nat) (q : AV) (qids : List Nat) : ∀ (t pre : List Af) (m : Nat) (x : AV) (H : Ab) (ids : List Nat), o.fFl = pre ++ t → t.length < m → OutI H io i2 i1 o x q pre.length (pre.map Ap).flatten ids qids →
  Pa (PR (n + 3) AV) (n + 3) (fun x H => Aw Ag E0.tp 30 H x) m (.ptr i2 0) (.ptr io 0) (At Ap o.fFl) (.sc (.int .i64 o.fFl.length)) (.sc (.int .i64 pre.length)) H = some (.agg (Ar o))
 | [], pre, m + 1, x, H, ids, he, hm, hi => by
  rw [List.append_nil] at he
  show (PR (n + 3) AV).bin _ _ _ _ = _
  simp only [Bj, Bb, B7, Bg, A9, Bo]
  rw [Ct, Bl, if_neg (by rw [he]; simp)]
  subst he
  exact hi.fin
 | y :: t, pre, m + 1, x, H, ids, he, hm, hi => by
  have hlt : pre.length < o.fFl.length := by rw [he]; simp
  have hy : y.fM.fBody.size ≤ 1048576 := hs.1.2 y (by rw [he]; simp)
  have hlen := hs.1.1
  obtain ⟨l1, l2, l3, l4⟩ := hi.lt
  show (PR (n + 3) AV).bin _ _ _ _ = _
  simp only [Bj, Bb, B7, Bg, A9, Bo, Ca, B3, Cj, De, Cp]
  rw [Ct, Bl, if_pos (by simpa using hlt)]
  refine AhH Bf (by decide) he ?_
  refine I0 (ds := Ap y) (A3 rfl) rfl ?_
  refine Ux rfl (Bf _) (N1 (Df _)) fun i5 h5 => ?_
  refine Ah ?_
  refine Ba (c := x) (Bd hi.ho _) (A3 rfl) rfl ?_
  refine Ah ?_
  refine Ba (c := .sc (.int .i64 y.fId)) h5 (A3 rfl) rfl ?_
  refine Ah ?_
  refine Qc (ds := A1 y.fM) h5 (A3 rfl) rfl ?_
  refine Ah ?_
  refine Ba (c := .sc (.int .i64 y.fSt)) h5 (A3 rfl) rfl ?_
  refine P0 (β := AV) (n := n + 3) (X0 := [⟨Ap y, true, true⟩]) (f := y) (r := some (.agg (Ar o))) hi.hs rfl (A8 (E2 _ (Ff _)) Dc) (V1 (n + 1) (by omega) y.fM hy) Qb (by omega) fun x' H' ids' h1 h2 h3 h4 => ?_
  refine Ah ?_
  refine hi.put h1 h2 h3 fun H'' hi' => ?_
  rw [Dt _ _ (by omega)]
  have ih := Kg n hn o hs io i2 i1 q qids t (pre ++ [y]) m x' H'' ids' (by rw [he]; simp) (by simpa using hm) (by
   rw [List.length_append, List.length_singleton, List.map_append, List.flatten_append]
   simpa using hi')
  rw [List.length_append, List.length_singleton] at ih
  exact ih
theorem Afl (o : Ci) (A : AV × List Fz) (hA : A2 Ag E0.tp 2 28 (At A1 o.fQ) = A) : OutI (([⟨Ar o, true, true⟩, ⟨Dx, true, true⟩] ++ A.2 ++ [⟨Dx, true, true⟩] : Ab).set (2 + A.2.length) ⟨[.sc (.int .i64 o.fLast), .nl, A.1], true, true⟩) (2 + A.2.length) 1 0 o .nl A.1 0 [] [] (List.range' 2 A.2.length) := by
 have hlen : ([⟨Ar o, true, true⟩, ⟨Dx, true, true⟩] ++ A.2 : Ab).length = 2 + A.2.length := by simp; omega
 have e : ([⟨Ar o, true, true⟩, ⟨Dx, true, true⟩] ++ A.2 ++ [⟨Dx, true, true⟩] : Ab).set (2 + A.2.length) ⟨[.sc (.int .i64 o.fLast), .nl, A.1], true, true⟩ = [⟨Ar o, true, true⟩, ⟨Dx, true, true⟩] ++ A.2 ++ [⟨[.sc (.int .i64 o.fLast), .nl, A.1], true, true⟩] := by
  rw [← hlen]
  exact Zs _ _ _ []
 rw [e]
 refine ⟨?_, OwnSI.nil _ _ _ _, ?_, List.nodup_range', ⟨Dx, rfl, rfl⟩, rfl, by omega, by omega, by decide, by simp, ?_, by simp, ?_, by simp, by simp⟩
 ·rw [← hlen]
  exact Jn _ _ []
 ·rw [← hA]
  refine Iw 7 _ _ 2 (Ht (d := 6) F4 Pq (Kp 4) o.fQ) ?_
  rw [hA]
  exact T8 [(⟨Ar o, true, true⟩ : Fz), ⟨Dx, true, true⟩] A.2 _
 ·rw [List.mem_range'_1]; omega
 ·rw [List.mem_range'_1]; omega
theorem Afm (o : Ci) (A : AV × List Fz) (hA : A2 Ag E0.tp 3 28 (At A1 o.fQ) = A) : OutI (([⟨Ar o, true, true⟩, ⟨Dx, true, true⟩, ⟨Dx, true, true⟩] ++ A.2 : Ab).set 2 ⟨[.sc (.int .i64 o.fLast), .nl, A.1], true, true⟩) 2 1 0 o .nl A.1 0 [] [] (List.range' 3 A.2.length) := by
 refine ⟨rfl, OwnSI.nil _ _ _ _, ?_, List.nodup_range', ⟨Dx, rfl, rfl⟩, rfl, by decide, by decide, by decide, by simp, ?_, by simp, ?_, by simp, by simp⟩
 ·rw [← hA]
  refine Iw 7 _ _ 3 (Ht (d := 6) F4 Pq (Kp 4) o.fQ) ?_
  rw [hA]
  exact Js [(⟨Ar o, true, true⟩ : Fz), ⟨Dx, true, true⟩, (⟨[.sc (.int .i64 o.fLast), .nl, A.1], true, true⟩ : Fz)] A.2
 ·rw [List.mem_range'_1]; omega
 ·rw [List.mem_range'_1]; omega
theorem Md (N : Nat) (o : Ci) : A4 (A2 Ag E0.tp N 28 (At A1 o.fQ)).1 = true := rfl
theorem AeX (n : Nat) (hn : 1048576 < n) (o : Ci) (hs : Sp o) : Bt E0 (n + 4) 30 85 [.agg (Ar o)] = some (.agg (Ar o)) := by
 rw [Ax, Ajo, f85]
 simp only [B6, Cp, Bj, Bb, Z8, B3, Bo, K4]
 rw [E3 _ _ _ (Fq o)]
 simp only [List.length_nil, List.nil_append, List.length_cons, Nat.zero_add]
 have hz : ([⟨[.sc (.int .i64 0), .nl, .nl], true, true⟩] : Ab) = [⟨Dx, true, true⟩] := rfl
 rw [hz]
 have hH : ([⟨Ar o, true, true⟩] ++ [⟨Dx, true, true⟩] : Ab)[0]? = some ⟨Ar o, true, true⟩ := rfl
 refine Ah ?_
 refine Ba (c := .sc (.int .i64 o.fLast)) hH (A3 rfl) rfl ?_
 refine Ah ?_
 refine Ba (c := At A1 o.fQ) hH (A3 rfl) rfl ?_
 refine Oo ?_ ?_
 ·rw [Dd (vs := [At A1 o.fQ]) rfl (A8 (Fe _ _ _) Dc) (Wg n hn o.fQ hs.2.1 hs.2.2)]
  have hl := Md 2 o
  generalize hA : A2 Ag E0.tp 2 28 (At A1 o.fQ) = A at hl
  have hA' : A2 Ag E0.tp ([⟨Ar o, true, true⟩] ++ [⟨Dx, true, true⟩] : Ab).length 28 (At A1 o.fQ) = A := hA
  rw [hA']
  have hc1 : Bz A.1 = some [A.1] := by
   generalize A.1 = y at hl
   cases y <;> first | (simp [A4] at hl; done) | (simp only [Bz, hl, if_true]) | rfl
  refine Pt (cs := [.sc (.int .i64 o.fLast), .nl, A.1]) (by simp only [Ez, hc1]; rfl) ?_
  have hlen : ([⟨Ar o, true, true⟩] ++ [⟨Dx, true, true⟩] ++ A.2 : Ab).length = 2 + A.2.length := by simp; omega
  have hg : ([⟨Ar o, true, true⟩] ++ [⟨Dx, true, true⟩] ++ A.2 ++ [⟨Dx, true, true⟩] : Ab)[2 + A.2.length]? = some ⟨Dx, true, true⟩ := by
   rw [← hlen]
   exact Jn _ _ []
  have hc : Bz (.agg [.sc (.int .i64 o.fLast), .nl, A.1]) = some [.sc (.int .i64 o.fLast), .nl, A.1] := by
   show (if (true && (true && (A4 A.1 && true))) = true then _ else none) = _
   rw [hl]
   rfl
  rw [hlen, He 3 (2 + A.2.length) 0 _ ⟨Dx, true, true⟩ [.sc (.int .i64 o.fLast), .nl, A.1] _ _ hg hc rfl (A3 rfl) rfl]
  exact R0 n hn o hs (2 + A.2.length) 1 0 A.1 _ o.fFl [] (n + 3) .nl _ [] rfl (by have := hs.1.1; omega) (Afl o A hA)
 ·rw [Dd (vs := [At A1 o.fQ]) rfl (A8 (Fe _ _ _) Dc) (Wg n hn o.fQ hs.2.1 hs.2.2)]
  have hl := Md 3 o
  generalize hA : A2 Ag E0.tp 3 28 (At A1 o.fQ) = A at hl
  have hA' : A2 Ag E0.tp ([⟨Ar o, true, true⟩] ++ [⟨Dx, true, true⟩] ++ [⟨Dx, true, true⟩] : Ab).length 28 (At A1 o.fQ) = A := hA
  rw [hA']
  have hc1 : Bz A.1 = some [A.1] := by
   generalize A.1 = y at hl
   cases y <;> first | (simp [A4] at hl; done) | (simp only [Bz, hl, if_true]) | rfl
  refine Pt (cs := [.sc (.int .i64 o.fLast), .nl, A.1]) (by simp only [Ez, hc1]; rfl) ?_
  have hc : Bz (.agg [.sc (.int .i64 o.fLast), .nl, A.1]) = some [.sc (.int .i64 o.fLast), .nl, A.1] := by
   show (if (true && (true && (A4 A.1 && true))) = true then _ else none) = _
   rw [hl]
   rfl
  rw [show ([⟨Ar o, true, true⟩] ++ [⟨Dx, true, true⟩] : Ab).length = 2 from rfl]
  rw [He 3 2 0 _ ⟨Dx, true, true⟩ [.sc (.int .i64 o.fLast), .nl, A.1] _ _ rfl hc rfl (A3 rfl) rfl]
  exact R0 n hn o hs 2 1 0 A.1 _ o.fFl [] (n + 3) .nl _ [] rfl (by have := hs.1.1; omega) (Afm o A hA)
theorem Adm (n : Nat) (hn : 1048576 < n) (o : Ci) (hs : Sp o) : Bt E0 (n + 4) 30 89 [.agg (Ar o)] = some (.agg (Ar o)) := by
 rw [Ax, Ajs, f89]
 simp only [B6, Cp, Bj, Bb, Z8, B3, Bo, B7, K4]
 rw [E3 _ _ _ (Fq o)]
 simp only [List.length_nil, List.nil_append, List.length_cons, Nat.zero_add]
 have hz : ([⟨[.sc (.int .i64 0), .nl, .nl], true, true⟩] : Ab) = [⟨Dx, true, true⟩] := rfl
 rw [hz]
 have hH : ([⟨Ar o, true, true⟩] ++ [⟨Dx, true, true⟩] : Ab)[0]? = some ⟨Ar o, true, true⟩ := rfl
 refine Ah ?_
 refine Ba (c := .sc (.int .i64 o.fLast)) hH (A3 rfl) rfl ?_
 refine Ah ?_
 refine Ba (c := At A1 o.fQ) hH (A3 rfl) rfl ?_
 refine Oo ?_ ?_
 ·rw [Dd (vs := [At A1 o.fQ]) rfl (A8 (Fe _ _ _) Dc) (Tf n hn o.fQ hs.2.1 hs.2.2)]
  have hl := Md 2 o
  generalize hA : A2 Ag E0.tp 2 28 (At A1 o.fQ) = A at hl
  have hA' : A2 Ag E0.tp ([⟨Ar o, true, true⟩] ++ [⟨Dx, true, true⟩] : Ab).length 28 (At A1 o.fQ) = A := hA
  rw [hA']
  have hc1 : Bz A.1 = some [A.1] := by
   generalize A.1 = y at hl
   cases y <;> first | (simp [A4] at hl; done) | (simp only [Bz, hl, if_true]) | rfl
  refine Pt (cs := [.sc (.int .i64 o.fLast), .nl, A.1]) (by simp only [Ez, hc1]; rfl) ?_
  have hlen : ([⟨Ar o, true, true⟩] ++ [⟨Dx, true, true⟩] ++ A.2 : Ab).length = 2 + A.2.length := by simp; omega
  have hg : ([⟨Ar o, true, true⟩] ++ [⟨Dx, true, true⟩] ++ A.2 ++ [⟨Dx, true, true⟩] : Ab)[2 + A.2.length]? = some ⟨Dx, true, true⟩ := by
   rw [← hlen]
   exact Jn _ _ []
  have hc : Bz (.agg [.sc (.int .i64 o.fLast), .nl, A.1]) = some [.sc (.int .i64 o.fLast), .nl, A.1] := by
   show (if (true && (true && (A4 A.1 && true))) = true then _ else none) = _
   rw [hl]
   rfl
  rw [hlen, He 3 (2 + A.2.length) 0 _ ⟨Dx, true, true⟩ [.sc (.int .i64 o.fLast), .nl, A.1] _ _ hg hc rfl (A3 rfl) rfl]
  have hI := Afl o A hA
  refine Ah ?_
  refine Ba (c := At Ap o.fFl) hI.src (A3 rfl) rfl ?_
  refine Et ?_
  exact Kg n hn o hs (2 + A.2.length) 1 0 A.1 _ o.fFl [] (n + 3) .nl _ [] rfl (by have := hs.1.1; omega) hI
 ·rw [Dd (vs := [At A1 o.fQ]) rfl (A8 (Fe _ _ _) Dc) (Tf n hn o.fQ hs.2.1 hs.2.2)]
  have hl := Md 3 o
  generalize hA : A2 Ag E0.tp 3 28 (At A1 o.fQ) = A at hl
  have hA' : A2 Ag E0.tp ([⟨Ar o, true, true⟩] ++ [⟨Dx, true, true⟩] ++ [⟨Dx, true, true⟩] : Ab).length 28 (At A1 o.fQ) = A := hA
  rw [hA']
  have hc1 : Bz A.1 = some [A.1] := by
   generalize A.1 = y at hl
   cases y <;> first | (simp [A4] at hl; done) | (simp only [Bz, hl, if_true]) | rfl
  refine Pt (cs := [.sc (.int .i64 o.fLast), .nl, A.1]) (by simp only [Ez, hc1]; rfl) ?_
  have hc : Bz (.agg [.sc (.int .i64 o.fLast), .nl, A.1]) = some [.sc (.int .i64 o.fLast), .nl, A.1] := by
   show (if (true && (true && (A4 A.1 && true))) = true then _ else none) = _
   rw [hl]
   rfl
  rw [show ([⟨Ar o, true, true⟩] ++ [⟨Dx, true, true⟩] : Ab).length = 2 from rfl]
  rw [He 3 2 0 _ ⟨Dx, true, true⟩ [.sc (.int .i64 o.fLast), .nl, A.1] _ _ rfl hc rfl (A3 rfl) rfl]
  have hI := Afm o A hA
  refine Ah ?_
  refine Ba (c := At Ap o.fFl) hI.src (A3 rfl) rfl ?_
  refine Et ?_
  exact Kg n hn o hs 2 1 0 A.1 _ o.fFl [] (n + 3) .nl _ [] rfl (by have := hs.1.1; omega) hI
end
section
open Go
def Hu (x y : H0) : Bool := x.fFilter.toList == y.fFilter.toList && x.fQos == y.fQos
theorem Tc (x y : H0) : Jb [1, 0] (B0 x) (B0 y) = some (Hu x y) := by
 simp only [B0, Jb, X1, Hu, if_true, Option.bind_some]
 generalize (x.fFilter.toList == y.fFilter.toList) = b0
 generalize (x.fQos == y.fQos) = b1
 cases b0 <;> cases b1 <;> rfl
theorem X3 (n : Nat) (hn : 1048576 < n) (ty : Nat) (l q : List H0) (hl : l.length ≤ 1048576) : Bt E0 (n + 1) ty 203 [At B0 l, At B0 q] = some (.sc (.bool (Gk Hu l q))) := by
 rw [Ax, Agu, f203]
 simp only [B7, Bg, A9]
 rw [Dg, Dg, Oh, Bl, Gk]
 by_cases h : l.length = q.length
 ·rw [if_neg (by simpa using h), if_pos h]
  rw [Dg]
  have key := Ir (β := AV) B0 (Kn) (by decide) (fun x => .agg (B0 x)) (fun p k => Bh true 2 p [] k) (fun x r k => Mp 2 _ _ [] k (Kn x)) (fun x y k => On .neq [1, 0] x y k) Hu (fun x y k => Aae _ _ _ _ (Tc x y) k) l q h hl (fun m i => Nv (PR n AV) n (fun x H => Aw Ag E0.tp ty H x) m (At B0 l) (At B0 q) (.sc (.int .i64 l.length)) i []) (some (.sc (.bool false))) (some (.sc (.bool true))) (fun m i => rfl) l q [] [] n rfl rfl rfl (by omega)
  simp only [List.length_nil, Int.natCast_zero] at key
  refine key.trans ?_
  cases Hk Hu l q <;> rfl
 ·rw [if_pos (by simpa using h), if_neg h]
  rfl
theorem Abt (n : Nat) (hn : 1048576 < n) (ty : Nat) (l q : List ByteArray) (hl : l.length ≤ 1048576) : Bt E0 (n + 1) ty 204 [Fv l, Fv q] = some (.sc (.bool (Gk O7 l q))) := by
 rw [Mk, Mk]
 rw [Ax, Agv, f204]
 simp only [B7, Bg, A9]
 rw [Dg, Dg, Oh, Bl, Gk]
 by_cases h : l.length = q.length
 ·rw [if_neg (by simpa using h), if_pos h]
  rw [Dg]
  have key := Ir (β := AV) Ug (fun _ => rfl) (by decide) (fun z => .sc (.string z)) (fun p k => Bh false 1 p [] k) (fun x r k => ldS x r [] k) (fun x y k => Bn .neq x y k) O7 (fun x y k => neS x y k) l q h hl (fun m i => Nw (PR n AV) n (fun x H => Aw Ag E0.tp ty H x) m (At Ug l) (At Ug q) (.sc (.int .i64 l.length)) i []) (some (.sc (.bool false))) (some (.sc (.bool true))) (fun m i => rfl) l q [] [] n rfl rfl rfl (by omega)
  simp only [List.length_nil, Int.natCast_zero] at key
  refine key.trans ?_
  cases Hk O7 l q <;> rfl
 ·rw [if_pos (by simpa using h), if_neg h]
  rfl
theorem Abr (n : Nat) (hn : 1048576 < n) (ty : Nat) (l q : List Int) (hl : l.length ≤ 1048576) : Bt E0 (n + 1) ty 205 [Fs l, Fs q] = some (.sc (.bool (Gk Xj l q))) := by
 rw [Mb, Mb]
 rw [Ax, Agw, f205]
 simp only [B7, Bg, A9]
 rw [Dg, Dg, Oh, Bl, Gk]
 by_cases h : l.length = q.length
 ·rw [if_neg (by simpa using h), if_pos h]
  rw [Dg]
  have key := Ir (β := AV) Uf (fun _ => rfl) (by decide) (fun z => .sc (.int .i64 z)) (fun p k => Bh false 1 p [] k) (fun x r k => ldI x r [] k) (fun x y k => Bn .neq x y k) Xj (fun x y k => neI x y k) l q h hl (fun m i => Nx (PR n AV) n (fun x H => Aw Ag E0.tp ty H x) m (At Uf l) (At Uf q) (.sc (.int .i64 l.length)) i []) (some (.sc (.bool false))) (some (.sc (.bool true))) (fun m i => rfl) l q [] [] n rfl rfl rfl (by omega)
  simp only [List.length_nil, Int.natCast_zero] at key
  refine key.trans ?_
  cases Hk Xj l q <;> rfl
 ·rw [if_pos (by simpa using h), if_neg h]
  rfl
def Fw (a b : Ay) : Bool := (a.fType == b.fType) && (a.fDup == b.fDup) && (a.fQos == b.fQos) && (a.fRetain == b.fRetain) && (a.fId == b.fId) && (a.fTopic.toList == b.fTopic.toList) && (a.fBody.toList == b.fBody.toList) && (a.fClient.toList == b.fClient.toList) && (a.fLevel == b.fLevel) && (a.fClean == b.fClean) && (a.fKeep == b.fKeep) && (a.fHasWill == b.fHasWill) && (a.fWTopic.toList == b.fWTopic.toList) && (a.fWBody.toList == b.fWBody.toList) && (a.fWQos == b.fWQos) && (a.fWRetain == b.fWRetain) && (a.fHasUser == b.fHasUser) && (a.fUser.toList == b.fUser.toList) && (a.fHasPass == b.fHasPass) && (a.fPass.toList == b.fPass.toList) && (a.fCode == b.fCode) && (a.fPresent == b.fPresent)
def Lw (a b : Ay) : Bool := Gk Hu a.fWants b.fWants && Gk O7 a.fNames b.fNames && Gk Xj a.fCodes b.fCodes
def D4 (a b : Ay) : Bool := Lw a b && Fw a b
theorem Ah5 (n : Nat) (hn : 1048576 < n) (ty : Nat) (a b : Ay) (H : Ab) (i1 i2 : Nat) (B1 : H[i1]? = some ⟨Aq a, true, true⟩) (B2 : H[i2]? = some ⟨Aq b, true, true⟩) (hl2 : a.fCodes.length ≤ 1048576) (hq2 : a.fCodes.length = b.fCodes.length) : Jd (PR (n + 1) AV) (n + 1) (fun x H => Aw Ag E0.tp ty H x) (n + 1) (.ptr i1 0) (.ptr i2 0) (.sc (.int .i64 0)) H = some (.sc (.bool (if Hk Xj a.fCodes b.fCodes then (Fw a b) else false))) := by
 have hL : ∀ m i, Jd (PR (n + 1) AV) (n + 1) (fun x H => Aw Ag E0.tp ty H x) (m + 1) (.ptr i1 0) (.ptr i2 0) i H = Bn .lss i (.sc (.int .i64 a.fCodes.length)) fun t14 => Cb t14 (Cg 1 (At Uf a.fCodes) i fun t19 => Bh false 1 t19 H fun t20 => Cg 1 (At Uf b.fCodes) i fun t23 => Bh false 1 t23 H fun t24 => (fun x y k => Bn .neq x y k) t20 t24 fun t25 => Cb t25 (some (.sc (.bool false))) (Bn .add i (.sc (.int .i64 1)) fun t16 => Jd (PR (n + 1) AV) (n + 1) (fun x H => Aw Ag E0.tp ty H x) m (.ptr i1 0) (.ptr i2 0) t16 H)) (some (.sc (.bool (Fw a b)))) := by
  intro m i
  show (PR (n + 1) AV).fadr 24 (.ptr i1 0) _ = _
  simp only [Bj, Bb, Bg, Cx, Dl, A9, Br, B4, B7, Ca]
  refine Ah ?_
  refine Ba (c := Fs a.fCodes) B1 (A3 rfl) rfl ?_
  refine Et ?_
  congr 1
  funext t
  congr 1
  ·refine Ah ?_
   refine Ba (c := Fs a.fCodes) B1 (A3 rfl) rfl ?_
   rw [Mb]
   congr 1
   funext t2
   congr 1
   funext t3
   refine Ah ?_
   refine Ba (c := Fs b.fCodes) B2 (A3 rfl) rfl ?_
   rw [Mb]
   rfl
  ·skip
   refine Ah ?_
   refine Ba (c := .sc (.int .i64 a.fType)) B1 (A3 rfl) rfl ?_
   refine Ah ?_
   refine Ba (c := .sc (.int .i64 b.fType)) B2 (A3 rfl) rfl ?_
   refine Bk (v := .sc (.bool (a.fType == b.fType))) (fun k => rfl) ?_
   apply Az ((a.fType == b.fType) && (a.fDup == b.fDup))
   ·intro b1 q1
    refine Ae ((a.fType == b.fType)) (fun h1 => ?_) (fun h1 => ?_)
    ·refine Al h1 ?_
     refine Ah ?_
     refine Al h1 ?_
     refine Ba (c := .sc (.bool a.fDup)) B1 (A3 rfl) rfl ?_
     refine Al h1 ?_
     refine Ah ?_
     refine Al h1 ?_
     refine Ba (c := .sc (.bool b.fDup)) B2 (A3 rfl) rfl ?_
     refine Al h1 ?_
     refine Gc (v := .sc (.bool (a.fDup == b.fDup))) (fun k => rfl) ?_
     refine Bv h1 (Gm q1 h1) ?_
     exact rfl
    ·refine Am h1 ?_
     refine Am h1 ?_
     refine Am h1 ?_
     refine Am h1 ?_
     refine Am h1 ?_
     refine Bu h1 (Gl q1 h1) ?_
     exact rfl
   intro b1 q1
   apply Az (b1 && (a.fQos == b.fQos))
   ·intro b2 q2
    refine Ae (b1) (fun h2 => ?_) (fun h2 => ?_)
    ·refine Al h2 ?_
     refine Ah ?_
     refine Al h2 ?_
     refine Ba (c := .sc (.int .i64 a.fQos)) B1 (A3 rfl) rfl ?_
     refine Al h2 ?_
     refine Ah ?_
     refine Al h2 ?_
     refine Ba (c := .sc (.int .i64 b.fQos)) B2 (A3 rfl) rfl ?_
     refine Al h2 ?_
     refine Bk (v := .sc (.bool (a.fQos == b.fQos))) (fun k => rfl) ?_
     refine Bv h2 (Gm q2 h2) ?_
     exact rfl
    ·refine Am h2 ?_
     refine Am h2 ?_
     refine Am h2 ?_
     refine Am h2 ?_
     refine Am h2 ?_
     refine Bu h2 (Gl q2 h2) ?_
     exact rfl
   intro b2 q2
   apply Az (b2 && (a.fRetain == b.fRetain))
   ·intro b3 q3
    refine Ae (b2) (fun h3 => ?_) (fun h3 => ?_)
    ·refine Al h3 ?_
     refine Ah ?_
     refine Al h3 ?_
     refine Ba (c := .sc (.bool a.fRetain)) B1 (A3 rfl) rfl ?_
     refine Al h3 ?_
     refine Ah ?_
     refine Al h3 ?_
     refine Ba (c := .sc (.bool b.fRetain)) B2 (A3 rfl) rfl ?_
     refine Al h3 ?_
     refine Gc (v := .sc (.bool (a.fRetain == b.fRetain))) (fun k => rfl) ?_
     refine Bv h3 (Gm q3 h3) ?_
     exact rfl
    ·refine Am h3 ?_
     refine Am h3 ?_
     refine Am h3 ?_
     refine Am h3 ?_
     refine Am h3 ?_
     refine Bu h3 (Gl q3 h3) ?_
     exact rfl
   intro b3 q3
   apply Az (b3 && (a.fId == b.fId))
   ·intro b4 q4
    refine Ae (b3) (fun h4 => ?_) (fun h4 => ?_)
    ·refine Al h4 ?_
     refine Ah ?_
     refine Al h4 ?_
     refine Ba (c := .sc (.int .i64 a.fId)) B1 (A3 rfl) rfl ?_
     refine Al h4 ?_
     refine Ah ?_
     refine Al h4 ?_
     refine Ba (c := .sc (.int .i64 b.fId)) B2 (A3 rfl) rfl ?_
     refine Al h4 ?_
     refine Bk (v := .sc (.bool (a.fId == b.fId))) (fun k => rfl) ?_
     refine Bv h4 (Gm q4 h4) ?_
     exact rfl
    ·refine Am h4 ?_
     refine Am h4 ?_
     refine Am h4 ?_
     refine Am h4 ?_
     refine Am h4 ?_
     refine Bu h4 (Gl q4 h4) ?_
     exact rfl
   intro b4 q4
   apply Az (b4 && (a.fTopic.toList == b.fTopic.toList))
   ·intro b5 q5
    refine Ae (b4) (fun h5 => ?_) (fun h5 => ?_)
    ·refine Al h5 ?_
     refine Ah ?_
     refine Al h5 ?_
     refine Ba (c := .sc (.string a.fTopic)) B1 (A3 rfl) rfl ?_
     refine Al h5 ?_
     refine Ah ?_
     refine Al h5 ?_
     refine Ba (c := .sc (.string b.fTopic)) B2 (A3 rfl) rfl ?_
     refine Al h5 ?_
     refine Bk (v := .sc (.bool (a.fTopic.toList == b.fTopic.toList))) (fun k => rfl) ?_
     refine Bv h5 (Gm q5 h5) ?_
     exact rfl
    ·refine Am h5 ?_
     refine Am h5 ?_
     refine Am h5 ?_
     refine Am h5 ?_
     refine Am h5 ?_
     refine Bu h5 (Gl q5 h5) ?_
     exact rfl
   intro b5 q5
   apply Az (b5 && (a.fBody.toList == b.fBody.toList))
   ·intro b6 q6
    refine Ae (b5) (fun h6 => ?_) (fun h6 => ?_)
    ·refine Al h6 ?_
     refine Ah ?_
     refine Al h6 ?_
     refine Ba (c := As a.fBody) B1 (A3 rfl) rfl ?_
     refine Al h6 ?_
     refine Ah ?_
     refine Al h6 ?_
     refine Ba (c := As b.fBody) B2 (A3 rfl) rfl ?_
     refine Al h6 ?_
     refine Dv rfl (A8 (Fe _ _ _) (A8 (Fe _ _ _) Dc)) (Uv (n + 0) _ a.fBody b.fBody) ?_
     refine Bv h6 (Gm q6 h6) ?_
     exact rfl
    ·refine Am h6 ?_
     refine Am h6 ?_
     refine Am h6 ?_
     refine Am h6 ?_
     refine Am h6 ?_
     refine Bu h6 (Gl q6 h6) ?_
     exact rfl
   intro b6 q6
   apply Az (b6 && (a.fClient.toList == b.fClient.toList))
   ·intro b7 q7
    refine Ae (b6) (fun h7 => ?_) (fun h7 => ?_)
    ·refine Al h7 ?_
     refine Ah ?_
     refine Al h7 ?_
     refine Ba (c := .sc (.string a.fClient)) B1 (A3 rfl) rfl ?_
     refine Al h7 ?_
     refine Ah ?_
     refine Al h7 ?_
     refine Ba (c := .sc (.string b.fClient)) B2 (A3 rfl) rfl ?_
     refine Al h7 ?_
     refine Bk (v := .sc (.bool (a.fClient.toList == b.fClient.toList))) (fun k => rfl) ?_
     refine Bv h7 (Gm q7 h7) ?_
     exact rfl
    ·refine Am h7 ?_
     refine Am h7 ?_
     refine Am h7 ?_
     refine Am h7 ?_
     refine Am h7 ?_
     refine Bu h7 (Gl q7 h7) ?_
     exact rfl
   intro b7 q7
   apply Az (b7 && (a.fLevel == b.fLevel))
   ·intro b8 q8
    refine Ae (b7) (fun h8 => ?_) (fun h8 => ?_)
    ·refine Al h8 ?_
     refine Ah ?_
     refine Al h8 ?_
     refine Ba (c := .sc (.int .i64 a.fLevel)) B1 (A3 rfl) rfl ?_
     refine Al h8 ?_
     refine Ah ?_
     refine Al h8 ?_
     refine Ba (c := .sc (.int .i64 b.fLevel)) B2 (A3 rfl) rfl ?_
     refine Al h8 ?_
     refine Bk (v := .sc (.bool (a.fLevel == b.fLevel))) (fun k => rfl) ?_
     refine Bv h8 (Gm q8 h8) ?_
     exact rfl
    ·refine Am h8 ?_
     refine Am h8 ?_
     refine Am h8 ?_
     refine Am h8 ?_
     refine Am h8 ?_
     refine Bu h8 (Gl q8 h8) ?_
     exact rfl
   intro b8 q8
   apply Az (b8 && (a.fClean == b.fClean))
   ·intro b9 q9
    refine Ae (b8) (fun h9 => ?_) (fun h9 => ?_)
    ·refine Al h9 ?_
     refine Ah ?_
     refine Al h9 ?_
     refine Ba (c := .sc (.bool a.fClean)) B1 (A3 rfl) rfl ?_
     refine Al h9 ?_
     refine Ah ?_
     refine Al h9 ?_
     refine Ba (c := .sc (.bool b.fClean)) B2 (A3 rfl) rfl ?_
     refine Al h9 ?_
     refine Gc (v := .sc (.bool (a.fClean == b.fClean))) (fun k => rfl) ?_
     refine Bv h9 (Gm q9 h9) ?_
     exact rfl
    ·refine Am h9 ?_
     refine Am h9 ?_
     refine Am h9 ?_
     refine Am h9 ?_
     refine Am h9 ?_
     refine Bu h9 (Gl q9 h9) ?_
     exact rfl
   intro b9 q9
   apply Az (b9 && (a.fKeep == b.fKeep))
   ·intro b10 q10
    refine Ae (b9) (fun h10 => ?_) (fun h10 => ?_)
    ·refine Al h10 ?_
     refine Ah ?_
     refine Al h10 ?_
     refine Ba (c := .sc (.int .i64 a.fKeep)) B1 (A3 rfl) rfl ?_
     refine Al h10 ?_
     refine Ah ?_
     refine Al h10 ?_
     refine Ba (c := .sc (.int .i64 b.fKeep)) B2 (A3 rfl) rfl ?_
     refine Al h10 ?_
     refine Bk (v := .sc (.bool (a.fKeep == b.fKeep))) (fun k => rfl) ?_
     refine Bv h10 (Gm q10 h10) ?_
     exact rfl
    ·refine Am h10 ?_
     refine Am h10 ?_
     refine Am h10 ?_
     refine Am h10 ?_
     refine Am h10 ?_
     refine Bu h10 (Gl q10 h10) ?_
     exact rfl
   intro b10 q10
   apply Az (b10 && (a.fHasWill == b.fHasWill))
   ·intro b11 q11
    refine Ae (b10) (fun h11 => ?_) (fun h11 => ?_)
    ·refine Al h11 ?_
     refine Ah ?_
     refine Al h11 ?_
     refine Ba (c := .sc (.bool a.fHasWill)) B1 (A3 rfl) rfl ?_
     refine Al h11 ?_
     refine Ah ?_
     refine Al h11 ?_
     refine Ba (c := .sc (.bool b.fHasWill)) B2 (A3 rfl) rfl ?_
     refine Al h11 ?_
     refine Gc (v := .sc (.bool (a.fHasWill == b.fHasWill))) (fun k => rfl) ?_
     refine Bv h11 (Gm q11 h11) ?_
     exact rfl
    ·refine Am h11 ?_
     refine Am h11 ?_
     refine Am h11 ?_
     refine Am h11 ?_
     refine Am h11 ?_
     refine Bu h11 (Gl q11 h11) ?_
     exact rfl
   intro b11 q11
   apply Az (b11 && (a.fWTopic.toList == b.fWTopic.toList))
   ·intro b12 q12
    refine Ae (b11) (fun h12 => ?_) (fun h12 => ?_)
    ·refine Al h12 ?_
     refine Ah ?_
     refine Al h12 ?_
     refine Ba (c := .sc (.string a.fWTopic)) B1 (A3 rfl) rfl ?_
     refine Al h12 ?_
     refine Ah ?_
     refine Al h12 ?_
     refine Ba (c := .sc (.string b.fWTopic)) B2 (A3 rfl) rfl ?_
     refine Al h12 ?_
     refine Bk (v := .sc (.bool (a.fWTopic.toList == b.fWTopic.toList))) (fun k => rfl) ?_
     refine Bv h12 (Gm q12 h12) ?_
     exact rfl
    ·refine Am h12 ?_
     refine Am h12 ?_
     refine Am h12 ?_
     refine Am h12 ?_
     refine Am h12 ?_
     refine Bu h12 (Gl q12 h12) ?_
     exact rfl
   intro b12 q12
   apply Az (b12 && (a.fWBody.toList == b.fWBody.toList))
   ·intro b13 q13
    refine Ae (b12) (fun h13 => ?_) (fun h13 => ?_)
    ·refine Al h13 ?_
     refine Ah ?_
     refine Al h13 ?_
     refine Ba (c := As a.fWBody) B1 (A3 rfl) rfl ?_
     refine Al h13 ?_
     refine Ah ?_
     refine Al h13 ?_
     refine Ba (c := As b.fWBody) B2 (A3 rfl) rfl ?_
     refine Al h13 ?_
     refine Dv rfl (A8 (Fe _ _ _) (A8 (Fe _ _ _) Dc)) (Uv (n + 0) _ a.fWBody b.fWBody) ?_
     refine Bv h13 (Gm q13 h13) ?_
     exact rfl
    ·refine Am h13 ?_
     refine Am h13 ?_
     refine Am h13 ?_
     refine Am h13 ?_
     refine Am h13 ?_
     refine Bu h13 (Gl q13 h13) ?_
     exact rfl
   intro b13 q13
   apply Az (b13 && (a.fWQos == b.fWQos))
   ·intro b14 q14
    refine Ae (b13) (fun h14 => ?_) (fun h14 => ?_)
    ·refine Al h14 ?_
     refine Ah ?_
     refine Al h14 ?_
     refine Ba (c := .sc (.int .i64 a.fWQos)) B1 (A3 rfl) rfl ?_
     refine Al h14 ?_
     refine Ah ?_
     refine Al h14 ?_
     refine Ba (c := .sc (.int .i64 b.fWQos)) B2 (A3 rfl) rfl ?_
     refine Al h14 ?_
     refine Bk (v := .sc (.bool (a.fWQos == b.fWQos))) (fun k => rfl) ?_
     refine Bv h14 (Gm q14 h14) ?_
     exact rfl
    ·refine Am h14 ?_
     refine Am h14 ?_
     refine Am h14 ?_
     refine Am h14 ?_
     refine Am h14 ?_
     refine Bu h14 (Gl q14 h14) ?_
     exact rfl
   intro b14 q14
   apply Az (b14 && (a.fWRetain == b.fWRetain))
   ·intro b15 q15
    refine Ae (b14) (fun h15 => ?_) (fun h15 => ?_)
    ·refine Al h15 ?_
     refine Ah ?_
     refine Al h15 ?_
     refine Ba (c := .sc (.bool a.fWRetain)) B1 (A3 rfl) rfl ?_
     refine Al h15 ?_
     refine Ah ?_
     refine Al h15 ?_
     refine Ba (c := .sc (.bool b.fWRetain)) B2 (A3 rfl) rfl ?_
     refine Al h15 ?_
     refine Gc (v := .sc (.bool (a.fWRetain == b.fWRetain))) (fun k => rfl) ?_
     refine Bv h15 (Gm q15 h15) ?_
     exact rfl
    ·refine Am h15 ?_
     refine Am h15 ?_
     refine Am h15 ?_
     refine Am h15 ?_
     refine Am h15 ?_
     refine Bu h15 (Gl q15 h15) ?_
     exact rfl
   intro b15 q15
   apply Az (b15 && (a.fHasUser == b.fHasUser))
   ·intro b16 q16
    refine Ae (b15) (fun h16 => ?_) (fun h16 => ?_)
    ·refine Al h16 ?_
     refine Ah ?_
     refine Al h16 ?_
     refine Ba (c := .sc (.bool a.fHasUser)) B1 (A3 rfl) rfl ?_
     refine Al h16 ?_
     refine Ah ?_
     refine Al h16 ?_
     refine Ba (c := .sc (.bool b.fHasUser)) B2 (A3 rfl) rfl ?_
     refine Al h16 ?_
     refine Gc (v := .sc (.bool (a.fHasUser == b.fHasUser))) (fun k => rfl) ?_
     refine Bv h16 (Gm q16 h16) ?_
     exact rfl
    ·refine Am h16 ?_
     refine Am h16 ?_
     refine Am h16 ?_
     refine Am h16 ?_
     refine Am h16 ?_
     refine Bu h16 (Gl q16 h16) ?_
     exact rfl
   intro b16 q16
   apply Az (b16 && (a.fUser.toList == b.fUser.toList))
   ·intro b17 q17
    refine Ae (b16) (fun h17 => ?_) (fun h17 => ?_)
    ·refine Al h17 ?_
     refine Ah ?_
     refine Al h17 ?_
     refine Ba (c := .sc (.string a.fUser)) B1 (A3 rfl) rfl ?_
     refine Al h17 ?_
     refine Ah ?_
     refine Al h17 ?_
     refine Ba (c := .sc (.string b.fUser)) B2 (A3 rfl) rfl ?_
     refine Al h17 ?_
     refine Bk (v := .sc (.bool (a.fUser.toList == b.fUser.toList))) (fun k => rfl) ?_
     refine Bv h17 (Gm q17 h17) ?_
     exact rfl
    ·refine Am h17 ?_
     refine Am h17 ?_
     refine Am h17 ?_
     refine Am h17 ?_
     refine Am h17 ?_
     refine Bu h17 (Gl q17 h17) ?_
     exact rfl
   intro b17 q17
   apply Az (b17 && (a.fHasPass == b.fHasPass))
   ·intro b18 q18
    refine Ae (b17) (fun h18 => ?_) (fun h18 => ?_)
    ·refine Al h18 ?_
     refine Ah ?_
     refine Al h18 ?_
     refine Ba (c := .sc (.bool a.fHasPass)) B1 (A3 rfl) rfl ?_
     refine Al h18 ?_
     refine Ah ?_
     refine Al h18 ?_
     refine Ba (c := .sc (.bool b.fHasPass)) B2 (A3 rfl) rfl ?_
     refine Al h18 ?_
     refine Gc (v := .sc (.bool (a.fHasPass == b.fHasPass))) (fun k => rfl) ?_
     refine Bv h18 (Gm q18 h18) ?_
     exact rfl
    ·refine Am h18 ?_
     refine Am h18 ?_
     refine Am h18 ?_
     refine Am h18 ?_
     refine Am h18 ?_
     refine Bu h18 (Gl q18 h18) ?_
     exact rfl
   intro b18 q18
   apply Az (b18 && (a.fPass.toList == b.fPass.toList))
   ·intro b19 q19
    refine Ae (b18) (fun h19 => ?_) (fun h19 => ?_)
    ·refine Al h19 ?_
     refine Ah ?_
     refine Al h19 ?_
     refine Ba (c := As a.fPass) B1 (A3 rfl) rfl ?_
     refine Al h19 ?_
     refine Ah ?_
     refine Al h19 ?_
     refine Ba (c := As b.fPass) B2 (A3 rfl) rfl ?_
     refine Al h19 ?_
     refine Dv rfl (A8 (Fe _ _ _) (A8 (Fe _ _ _) Dc)) (Uv (n + 0) _ a.fPass b.fPass) ?_
     refine Bv h19 (Gm q19 h19) ?_
     exact rfl
    ·refine Am h19 ?_
     refine Am h19 ?_
     refine Am h19 ?_
     refine Am h19 ?_
     refine Am h19 ?_
     refine Bu h19 (Gl q19 h19) ?_
     exact rfl
   intro b19 q19
   apply Az (b19 && (a.fCode == b.fCode))
   ·intro b20 q20
    refine Ae (b19) (fun h20 => ?_) (fun h20 => ?_)
    ·refine Al h20 ?_
     refine Ah ?_
     refine Al h20 ?_
     refine Ba (c := .sc (.int .i64 a.fCode)) B1 (A3 rfl) rfl ?_
     refine Al h20 ?_
     refine Ah ?_
     refine Al h20 ?_
     refine Ba (c := .sc (.int .i64 b.fCode)) B2 (A3 rfl) rfl ?_
     refine Al h20 ?_
     refine Bk (v := .sc (.bool (a.fCode == b.fCode))) (fun k => rfl) ?_
     refine Bv h20 (Gm q20 h20) ?_
     exact rfl
    ·refine Am h20 ?_
     refine Am h20 ?_
     refine Am h20 ?_
     refine Am h20 ?_
     refine Am h20 ?_
     refine Bu h20 (Gl q20 h20) ?_
     exact rfl
   intro b20 q20
   apply Az (b20 && (a.fPresent == b.fPresent))
   ·intro b21 q21
    refine Ae (b20) (fun h21 => ?_) (fun h21 => ?_)
    ·refine Al h21 ?_
     refine Ah ?_
     refine Al h21 ?_
     refine Ba (c := .sc (.bool a.fPresent)) B1 (A3 rfl) rfl ?_
     refine Al h21 ?_
     refine Ah ?_
     refine Al h21 ?_
     refine Ba (c := .sc (.bool b.fPresent)) B2 (A3 rfl) rfl ?_
     refine Al h21 ?_
     refine Gc (v := .sc (.bool (a.fPresent == b.fPresent))) (fun k => rfl) ?_
     refine Bv h21 (Gm q21 h21) ?_
     exact rfl
    ·refine Am h21 ?_
     refine Am h21 ?_
     refine Am h21 ?_
     refine Am h21 ?_
     refine Am h21 ?_
     refine Bu h21 (Gl q21 h21) ?_
     exact rfl
   intro b21 q21
   subst_vars; rfl
 have key := Ir (β := AV) Uf (fun _ => rfl) (by decide) (fun z => .sc (.int .i64 z)) (fun p k => Bh false 1 p H k) (fun x r k => ldI x r H k) (fun x y k => Bn .neq x y k) Xj (fun x y k => neI x y k) a.fCodes b.fCodes hq2 hl2 (fun m i => Jd (PR (n + 1) AV) (n + 1) (fun x H => Aw Ag E0.tp ty H x) m (.ptr i1 0) (.ptr i2 0) i H) (some (.sc (.bool false))) (some (.sc (.bool (Fw a b)))) hL a.fCodes b.fCodes [] [] (n + 1) rfl rfl rfl (by omega)
 simp only [List.length_nil, Int.natCast_zero] at key
 refine key.trans ?_
 cases Hk Xj a.fCodes b.fCodes <;> rfl
theorem Ah4 (n : Nat) (hn : 1048576 < n) (ty : Nat) (a b : Ay) (H : Ab) (i1 i2 : Nat) (B1 : H[i1]? = some ⟨Aq a, true, true⟩) (B2 : H[i2]? = some ⟨Aq b, true, true⟩) (hl1 : a.fNames.length ≤ 1048576) (hq1 : a.fNames.length = b.fNames.length) (hl2 : a.fCodes.length ≤ 1048576) (hq2 : a.fCodes.length = b.fCodes.length) : Hr (PR (n + 1) AV) (n + 1) (fun x H => Aw Ag E0.tp ty H x) (n + 1) (.ptr i1 0) (.ptr i2 0) (.sc (.int .i64 0)) H = some (.sc (.bool (if Hk O7 a.fNames b.fNames then (if Hk Xj a.fCodes b.fCodes then (Fw a b) else false) else false))) := by
 have hL : ∀ m i, Hr (PR (n + 1) AV) (n + 1) (fun x H => Aw Ag E0.tp ty H x) (m + 1) (.ptr i1 0) (.ptr i2 0) i H = Bn .lss i (.sc (.int .i64 a.fNames.length)) fun t14 => Cb t14 (Cg 1 (At Ug a.fNames) i fun t19 => Bh false 1 t19 H fun t20 => Cg 1 (At Ug b.fNames) i fun t23 => Bh false 1 t23 H fun t24 => (fun x y k => Bn .neq x y k) t20 t24 fun t25 => Cb t25 (some (.sc (.bool false))) (Bn .add i (.sc (.int .i64 1)) fun t16 => Hr (PR (n + 1) AV) (n + 1) (fun x H => Aw Ag E0.tp ty H x) m (.ptr i1 0) (.ptr i2 0) t16 H)) (some (.sc (.bool (if Hk Xj a.fCodes b.fCodes then (Fw a b) else false)))) := by
  intro m i
  show (PR (n + 1) AV).fadr 23 (.ptr i1 0) _ = _
  simp only [Bj, Bb, Bg, Cx, Dl, A9, Br, B4, B7, Ca]
  refine Ah ?_
  refine Ba (c := Fv a.fNames) B1 (A3 rfl) rfl ?_
  refine Et ?_
  congr 1
  funext t
  congr 1
  ·refine Ah ?_
   refine Ba (c := Fv a.fNames) B1 (A3 rfl) rfl ?_
   rw [Mk]
   congr 1
   funext t2
   congr 1
   funext t3
   refine Ah ?_
   refine Ba (c := Fv b.fNames) B2 (A3 rfl) rfl ?_
   rw [Mk]
   rfl
  ·skip
   exact Ah5 n hn ty a b H i1 i2 B1 B2 hl2 hq2
 have key := Ir (β := AV) Ug (fun _ => rfl) (by decide) (fun z => .sc (.string z)) (fun p k => Bh false 1 p H k) (fun x r k => ldS x r H k) (fun x y k => Bn .neq x y k) O7 (fun x y k => neS x y k) a.fNames b.fNames hq1 hl1 (fun m i => Hr (PR (n + 1) AV) (n + 1) (fun x H => Aw Ag E0.tp ty H x) m (.ptr i1 0) (.ptr i2 0) i H) (some (.sc (.bool false))) (some (.sc (.bool (if Hk Xj a.fCodes b.fCodes then (Fw a b) else false)))) hL a.fNames b.fNames [] [] (n + 1) rfl rfl rfl (by omega)
 simp only [List.length_nil, Int.natCast_zero] at key
 refine key.trans ?_
 cases Hk O7 a.fNames b.fNames <;> rfl
theorem Ah3 (n : Nat) (hn : 1048576 < n) (ty : Nat) (a b : Ay) (H : Ab) (i1 i2 : Nat) (B1 : H[i1]? = some ⟨Aq a, true, true⟩) (B2 : H[i2]? = some ⟨Aq b, true, true⟩) (hl0 : a.fWants.length ≤ 1048576) (hq0 : a.fWants.length = b.fWants.length) (hl1 : a.fNames.length ≤ 1048576) (hq1 : a.fNames.length = b.fNames.length) (hl2 : a.fCodes.length ≤ 1048576) (hq2 : a.fCodes.length = b.fCodes.length) : Hq (PR (n + 1) AV) (n + 1) (fun x H => Aw Ag E0.tp ty H x) (n + 1) (.ptr i1 0) (.ptr i2 0) (.sc (.int .i64 0)) H = some (.sc (.bool (if Hk Hu a.fWants b.fWants then (if Hk O7 a.fNames b.fNames then (if Hk Xj a.fCodes b.fCodes then (Fw a b) else false) else false) else false))) := by
 have hL : ∀ m i, Hq (PR (n + 1) AV) (n + 1) (fun x H => Aw Ag E0.tp ty H x) (m + 1) (.ptr i1 0) (.ptr i2 0) i H = Bn .lss i (.sc (.int .i64 a.fWants.length)) fun t14 => Cb t14 (Cg 2 (At B0 a.fWants) i fun t19 => Bh true 2 t19 H fun t20 => Cg 2 (At B0 b.fWants) i fun t23 => Bh true 2 t23 H fun t24 => (fun x y k => On .neq [1, 0] x y k) t20 t24 fun t25 => Cb t25 (some (.sc (.bool false))) (Bn .add i (.sc (.int .i64 1)) fun t16 => Hq (PR (n + 1) AV) (n + 1) (fun x H => Aw Ag E0.tp ty H x) m (.ptr i1 0) (.ptr i2 0) t16 H)) (some (.sc (.bool (if Hk O7 a.fNames b.fNames then (if Hk Xj a.fCodes b.fCodes then (Fw a b) else false) else false)))) := by
  intro m i
  show (PR (n + 1) AV).fadr 22 (.ptr i1 0) _ = _
  simp only [Bj, Bb, Bg, Cx, Dl, A9, Br, B4, B7, Ca]
  refine Ah ?_
  refine Ba (c := At B0 a.fWants) B1 (A3 rfl) rfl ?_
  refine Et ?_
  congr 1
  funext t
  congr 1
  ·refine Ah ?_
   refine Ba (c := At B0 a.fWants) B1 (A3 rfl) rfl ?_
   congr 1
   funext t2
   congr 1
   funext t3
   refine Ah ?_
   refine Ba (c := At B0 b.fWants) B2 (A3 rfl) rfl ?_
   rfl
  ·skip
   exact Ah4 n hn ty a b H i1 i2 B1 B2 hl1 hq1 hl2 hq2
 have key := Ir (β := AV) B0 (Kn) (by decide) (fun x => .agg (B0 x)) (fun p k => Bh true 2 p H k) (fun x r k => Mp 2 _ _ H k (Kn x)) (fun x y k => On .neq [1, 0] x y k) Hu (fun x y k => Aae _ _ _ _ (Tc x y) k) a.fWants b.fWants hq0 hl0 (fun m i => Hq (PR (n + 1) AV) (n + 1) (fun x H => Aw Ag E0.tp ty H x) m (.ptr i1 0) (.ptr i2 0) i H) (some (.sc (.bool false))) (some (.sc (.bool (if Hk O7 a.fNames b.fNames then (if Hk Xj a.fCodes b.fCodes then (Fw a b) else false) else false)))) hL a.fWants b.fWants [] [] (n + 1) rfl rfl rfl (by omega)
 simp only [List.length_nil, Int.natCast_zero] at key
 refine key.trans ?_
 cases Hk Hu a.fWants b.fWants <;> rfl
theorem K1 (n : Nat) (hn : 1048576 < n) (ty : Nat) (a : Ay) (b : Ay) (hl0 : a.fWants.length ≤ 1048576) (hl1 : a.fNames.length ≤ 1048576) (hl2 : a.fCodes.length ≤ 1048576) : Bt E0 (n + 2) ty 141 [.agg (Aq a), .agg (Aq b)] = some (.sc (.bool (D4 a b))) := by
 rw [Ax, Agf, f141]
 try simp only [B6, Cp, Bj, Bb, Bo, Bg, Cx, Dl, D7, A9, Br, B4, B7, Cs, Ca, Eg, C5, Cn, Cj, B3, Dz, De, Ef, Dq]
 refine L0 (D0 _) fun iB1 eB1 B1 => ?_
 refine L0 (D0 _) fun iB2 eB2 B2 => ?_
 replace B1 := Bd B1 [⟨Aq b, true, true⟩]
 refine Ah ?_
 refine Ba (c := At B0 a.fWants) B1 (A3 rfl) rfl ?_
 refine Et ?_
 refine Ah ?_
 refine Ba (c := At B0 b.fWants) B2 (A3 rfl) rfl ?_
 refine Et ?_
 refine Bk (v := .sc (.bool ((a.fWants.length : Int) != (b.fWants.length : Int)))) (fun k => rfl) ?_
 apply Az (((a.fWants.length : Int) != (b.fWants.length : Int)) || ((a.fNames.length : Int) != (b.fNames.length : Int)))
 ·intro b3 q3
  refine Ae (((a.fWants.length : Int) != (b.fWants.length : Int))) (fun h3 => ?_) (fun h3 => ?_)
  ·refine C8 h3 ?_
   refine C8 h3 ?_
   refine C8 h3 ?_
   refine C8 h3 ?_
   refine C8 h3 ?_
   refine C8 h3 ?_
   refine C8 h3 ?_
   refine Bv h3 (mOT q3 h3) ?_
   exact rfl
  ·refine C3 h3 ?_
   refine Ah ?_
   refine C3 h3 ?_
   refine Ba (c := Fv a.fNames) B1 (A3 rfl) rfl ?_
   refine C3 h3 ?_
   refine Et ?_
   refine C3 h3 ?_
   refine Ah ?_
   refine C3 h3 ?_
   refine Ba (c := Fv b.fNames) B2 (A3 rfl) rfl ?_
   refine C3 h3 ?_
   refine Et ?_
   refine C3 h3 ?_
   refine Bk (v := .sc (.bool ((a.fNames.length : Int) != (b.fNames.length : Int)))) (fun k => rfl) ?_
   refine Bu h3 (mOF q3 h3) ?_
   exact rfl
 intro b3 q3
 apply Az (b3 || ((a.fCodes.length : Int) != (b.fCodes.length : Int)))
 ·intro b4 q4
  refine Ae (b3) (fun h4 => ?_) (fun h4 => ?_)
  ·refine C8 h4 ?_
   refine C8 h4 ?_
   refine C8 h4 ?_
   refine C8 h4 ?_
   refine C8 h4 ?_
   refine C8 h4 ?_
   refine C8 h4 ?_
   refine Bv h4 (mOT q4 h4) ?_
   exact rfl
  ·refine C3 h4 ?_
   refine Ah ?_
   refine C3 h4 ?_
   refine Ba (c := Fs a.fCodes) B1 (A3 rfl) rfl ?_
   refine C3 h4 ?_
   refine Et ?_
   refine C3 h4 ?_
   refine Ah ?_
   refine C3 h4 ?_
   refine Ba (c := Fs b.fCodes) B2 (A3 rfl) rfl ?_
   refine C3 h4 ?_
   refine Et ?_
   refine C3 h4 ?_
   refine Bk (v := .sc (.bool ((a.fCodes.length : Int) != (b.fCodes.length : Int)))) (fun k => rfl) ?_
   refine Bu h4 (mOF q4 h4) ?_
   exact rfl
 intro b4 q4
 refine Ae (b4) (fun h5 => ?_) (fun h5 => ?_)
 ·refine Hh h5 ?_
  exact Es (by subst_vars; simp only [D4, Lw, Gk]; by_cases e0 : a.fWants.length = b.fWants.length <;> by_cases e1 : a.fNames.length = b.fNames.length <;> by_cases e2 : a.fCodes.length = b.fCodes.length <;> simp_all)
 ·refine Hz h5 ?_
  have l0 : a.fWants.length = b.fWants.length := by (subst_vars; simp at *; omega)
  have l1 : a.fNames.length = b.fNames.length := by (subst_vars; simp at *; omega)
  have l2 : a.fCodes.length = b.fCodes.length := by (subst_vars; simp at *; omega)
  refine (Ah3 n hn ty a b _ _ _ B1 B2 hl0 l0 hl1 l1 hl2 l2).trans ?_
  simp only [D4, Lw, Gk, l0, l1, l2, if_true]
  cases Hk Hu a.fWants b.fWants <;> cases Hk O7 a.fNames b.fNames <;> cases Hk Xj a.fCodes b.fCodes <;> simp
theorem Kz (n : Nat) (hn : 1048576 < n) (ty : Nat) (a : Ay) (b : Ay) (hl0 : a.fWants.length ≤ 1048576) (hl1 : a.fNames.length ≤ 1048576) (hl2 : a.fCodes.length ≤ 1048576) : Bt E0 (n + 2) ty 82 [.agg (Aq a), .agg (Aq b)] = some (.sc (.bool (D4 a b))) := by
 rw [Ax, Ajl, f82]
 try simp only [B6, Cp, Bj, Bb, Bo, Bg, Cx, Dl, D7, A9, Br, B4, B7, Cs, Ca, Eg, C5, Cn, Cj, B3, Dz, De, Ef, Dq]
 refine L0 (D0 _) fun iB1 eB1 B1 => ?_
 refine L0 (D0 _) fun iB2 eB2 B2 => ?_
 replace B1 := Bd B1 [⟨Aq b, true, true⟩]
 refine Ah ?_
 refine Ba (c := .sc (.int .i64 a.fType)) B1 (A3 rfl) rfl ?_
 refine Ah ?_
 refine Ba (c := .sc (.int .i64 b.fType)) B2 (A3 rfl) rfl ?_
 refine Bk (v := .sc (.bool (a.fType == b.fType))) (fun k => rfl) ?_
 apply Az ((a.fType == b.fType) && (a.fDup == b.fDup))
 ·intro b3 q3
  refine Ae ((a.fType == b.fType)) (fun h3 => ?_) (fun h3 => ?_)
  ·refine Al h3 ?_
   refine Ah ?_
   refine Al h3 ?_
   refine Ba (c := .sc (.bool a.fDup)) B1 (A3 rfl) rfl ?_
   refine Al h3 ?_
   refine Ah ?_
   refine Al h3 ?_
   refine Ba (c := .sc (.bool b.fDup)) B2 (A3 rfl) rfl ?_
   refine Al h3 ?_
   refine Gc (v := .sc (.bool (a.fDup == b.fDup))) (fun k => rfl) ?_
   refine Bv h3 (Gm q3 h3) ?_
   exact rfl
  ·refine Am h3 ?_
   refine Am h3 ?_
   refine Am h3 ?_
   refine Am h3 ?_
   refine Am h3 ?_
   refine Bu h3 (Gl q3 h3) ?_
   exact rfl
 intro b3 q3
 apply Az (b3 && (a.fQos == b.fQos))
 ·intro b4 q4
  refine Ae (b3) (fun h4 => ?_) (fun h4 => ?_)
  ·refine Al h4 ?_
   refine Ah ?_
   refine Al h4 ?_
   refine Ba (c := .sc (.int .i64 a.fQos)) B1 (A3 rfl) rfl ?_
   refine Al h4 ?_
   refine Ah ?_
   refine Al h4 ?_
   refine Ba (c := .sc (.int .i64 b.fQos)) B2 (A3 rfl) rfl ?_
   refine Al h4 ?_
   refine Bk (v := .sc (.bool (a.fQos == b.fQos))) (fun k => rfl) ?_
   refine Bv h4 (Gm q4 h4) ?_
   exact rfl
  ·refine Am h4 ?_
   refine Am h4 ?_
   refine Am h4 ?_
   refine Am h4 ?_
   refine Am h4 ?_
   refine Bu h4 (Gl q4 h4) ?_
   exact rfl
 intro b4 q4
 apply Az (b4 && (a.fRetain == b.fRetain))
 ·intro b5 q5
  refine Ae (b4) (fun h5 => ?_) (fun h5 => ?_)
  ·refine Al h5 ?_
   refine Ah ?_
   refine Al h5 ?_
   refine Ba (c := .sc (.bool a.fRetain)) B1 (A3 rfl) rfl ?_
   refine Al h5 ?_
   refine Ah ?_
   refine Al h5 ?_
   refine Ba (c := .sc (.bool b.fRetain)) B2 (A3 rfl) rfl ?_
   refine Al h5 ?_
   refine Gc (v := .sc (.bool (a.fRetain == b.fRetain))) (fun k => rfl) ?_
   refine Bv h5 (Gm q5 h5) ?_
   exact rfl
  ·refine Am h5 ?_
   refine Am h5 ?_
   refine Am h5 ?_
   refine Am h5 ?_
   refine Am h5 ?_
   refine Bu h5 (Gl q5 h5) ?_
   exact rfl
 intro b5 q5
 apply Az (b5 && (a.fId == b.fId))
 ·intro b6 q6
  refine Ae (b5) (fun h6 => ?_) (fun h6 => ?_)
  ·refine Al h6 ?_
   refine Ah ?_
   refine Al h6 ?_
   refine Ba (c := .sc (.int .i64 a.fId)) B1 (A3 rfl) rfl ?_
   refine Al h6 ?_
   refine Ah ?_
   refine Al h6 ?_
   refine Ba (c := .sc (.int .i64 b.fId)) B2 (A3 rfl) rfl ?_
   refine Al h6 ?_
   refine Bk (v := .sc (.bool (a.fId == b.fId))) (fun k => rfl) ?_
   refine Bv h6 (Gm q6 h6) ?_
   exact rfl
  ·refine Am h6 ?_
   refine Am h6 ?_
   refine Am h6 ?_
   refine Am h6 ?_
   refine Am h6 ?_
   refine Bu h6 (Gl q6 h6) ?_
   exact rfl
 intro b6 q6
 apply Az (b6 && (a.fTopic.toList == b.fTopic.toList))
 ·intro b7 q7
  refine Ae (b6) (fun h7 => ?_) (fun h7 => ?_)
  ·refine Al h7 ?_
   refine Ah ?_
   refine Al h7 ?_
   refine Ba (c := .sc (.string a.fTopic)) B1 (A3 rfl) rfl ?_
   refine Al h7 ?_
   refine Ah ?_
   refine Al h7 ?_
   refine Ba (c := .sc (.string b.fTopic)) B2 (A3 rfl) rfl ?_
   refine Al h7 ?_
   refine Bk (v := .sc (.bool (a.fTopic.toList == b.fTopic.toList))) (fun k => rfl) ?_
   refine Bv h7 (Gm q7 h7) ?_
   exact rfl
  ·refine Am h7 ?_
   refine Am h7 ?_
   refine Am h7 ?_
   refine Am h7 ?_
   refine Am h7 ?_
   refine Bu h7 (Gl q7 h7) ?_
   exact rfl
 intro b7 q7
 apply Az (b7 && (a.fBody.toList == b.fBody.toList))
 ·intro b8 q8
  refine Ae (b7) (fun h8 => ?_) (fun h8 => ?_)
  ·refine Al h8 ?_
   refine Ah ?_
   refine Al h8 ?_
   refine Ba (c := As a.fBody) B1 (A3 rfl) rfl ?_
   refine Al h8 ?_
   refine Ah ?_
   refine Al h8 ?_
   refine Ba (c := As b.fBody) B2 (A3 rfl) rfl ?_
   refine Al h8 ?_
   refine Dv rfl (A8 (Fe _ _ _) (A8 (Fe _ _ _) Dc)) (K8 (n + 0) _ a.fBody b.fBody) ?_
   refine Bv h8 (Gm q8 h8) ?_
   exact rfl
  ·refine Am h8 ?_
   refine Am h8 ?_
   refine Am h8 ?_
   refine Am h8 ?_
   refine Am h8 ?_
   refine Bu h8 (Gl q8 h8) ?_
   exact rfl
 intro b8 q8
 refine Ah ?_
 refine Ba (c := .sc (.string a.fClient)) B1 (A3 rfl) rfl ?_
 refine Ah ?_
 refine Ba (c := .sc (.string b.fClient)) B2 (A3 rfl) rfl ?_
 refine Bk (v := .sc (.bool (a.fClient.toList == b.fClient.toList))) (fun k => rfl) ?_
 apply Az ((a.fClient.toList == b.fClient.toList) && (a.fLevel == b.fLevel))
 ·intro b9 q9
  refine Ae ((a.fClient.toList == b.fClient.toList)) (fun h9 => ?_) (fun h9 => ?_)
  ·refine Al h9 ?_
   refine Ah ?_
   refine Al h9 ?_
   refine Ba (c := .sc (.int .i64 a.fLevel)) B1 (A3 rfl) rfl ?_
   refine Al h9 ?_
   refine Ah ?_
   refine Al h9 ?_
   refine Ba (c := .sc (.int .i64 b.fLevel)) B2 (A3 rfl) rfl ?_
   refine Al h9 ?_
   refine Bk (v := .sc (.bool (a.fLevel == b.fLevel))) (fun k => rfl) ?_
   refine Bv h9 (Gm q9 h9) ?_
   exact rfl
  ·refine Am h9 ?_
   refine Am h9 ?_
   refine Am h9 ?_
   refine Am h9 ?_
   refine Am h9 ?_
   refine Bu h9 (Gl q9 h9) ?_
   exact rfl
 intro b9 q9
 apply Az (b9 && (a.fClean == b.fClean))
 ·intro b10 q10
  refine Ae (b9) (fun h10 => ?_) (fun h10 => ?_)
  ·refine Al h10 ?_
   refine Ah ?_
   refine Al h10 ?_
   refine Ba (c := .sc (.bool a.fClean)) B1 (A3 rfl) rfl ?_
   refine Al h10 ?_
   refine Ah ?_
   refine Al h10 ?_
   refine Ba (c := .sc (.bool b.fClean)) B2 (A3 rfl) rfl ?_
   refine Al h10 ?_
   refine Gc (v := .sc (.bool (a.fClean == b.fClean))) (fun k => rfl) ?_
   refine Bv h10 (Gm q10 h10) ?_
   exact rfl
  ·refine Am h10 ?_
   refine Am h10 ?_
   refine Am h10 ?_
   refine Am h10 ?_
   refine Am h10 ?_
   refine Bu h10 (Gl q10 h10) ?_
   exact rfl
 intro b10 q10
 apply Az (b10 && (a.fKeep == b.fKeep))
 ·intro b11 q11
  refine Ae (b10) (fun h11 => ?_) (fun h11 => ?_)
  ·refine Al h11 ?_
   refine Ah ?_
   refine Al h11 ?_
   refine Ba (c := .sc (.int .i64 a.fKeep)) B1 (A3 rfl) rfl ?_
   refine Al h11 ?_
   refine Ah ?_
   refine Al h11 ?_
   refine Ba (c := .sc (.int .i64 b.fKeep)) B2 (A3 rfl) rfl ?_
   refine Al h11 ?_
   refine Bk (v := .sc (.bool (a.fKeep == b.fKeep))) (fun k => rfl) ?_
   refine Bv h11 (Gm q11 h11) ?_
   exact rfl
  ·refine Am h11 ?_
   refine Am h11 ?_
   refine Am h11 ?_
   refine Am h11 ?_
   refine Am h11 ?_
   refine Bu h11 (Gl q11 h11) ?_
   exact rfl
 intro b11 q11
 apply Az (b11 && (a.fHasUser == b.fHasUser))
 ·intro b12 q12
  refine Ae (b11) (fun h12 => ?_) (fun h12 => ?_)
  ·refine Al h12 ?_
   refine Ah ?_
   refine Al h12 ?_
   refine Ba (c := .sc (.bool a.fHasUser)) B1 (A3 rfl) rfl ?_
   refine Al h12 ?_
   refine Ah ?_
   refine Al h12 ?_
   refine Ba (c := .sc (.bool b.fHasUser)) B2 (A3 rfl) rfl ?_
   refine Al h12 ?_
   refine Gc (v := .sc (.bool (a.fHasUser == b.fHasUser))) (fun k => rfl) ?_
   refine Bv h12 (Gm q12 h12) ?_
   exact rfl
  ·refine Am h12 ?_
   refine Am h12 ?_
   refine Am h12 ?_
   refine Am h12 ?_
   refine Am h12 ?_
   refine Bu h12 (Gl q12 h12) ?_
   exact rfl
 intro b12 q12
 apply Az (b12 && (a.fUser.toList == b.fUser.toList))
 ·intro b13 q13
  refine Ae (b12) (fun h13 => ?_) (fun h13 => ?_)
  ·refine Al h13 ?_
   refine Ah ?_
   refine Al h13 ?_
   refine Ba (c := .sc (.string a.fUser)) B1 (A3 rfl) rfl ?_
   refine Al h13 ?_
   refine Ah ?_
   refine Al h13 ?_
   refine Ba (c := .sc (.string b.fUser)) B2 (A3 rfl) rfl ?_
   refine Al h13 ?_
   refine Bk (v := .sc (.bool (a.fUser.toList == b.fUser.toList))) (fun k => rfl) ?_
   refine Bv h13 (Gm q13 h13) ?_
   exact rfl
  ·refine Am h13 ?_
   refine Am h13 ?_
   refine Am h13 ?_
   refine Am h13 ?_
   refine Am h13 ?_
   refine Bu h13 (Gl q13 h13) ?_
   exact rfl
 intro b13 q13
 apply Az (b13 && (a.fHasPass == b.fHasPass))
 ·intro b14 q14
  refine Ae (b13) (fun h14 => ?_) (fun h14 => ?_)
  ·refine Al h14 ?_
   refine Ah ?_
   refine Al h14 ?_
   refine Ba (c := .sc (.bool a.fHasPass)) B1 (A3 rfl) rfl ?_
   refine Al h14 ?_
   refine Ah ?_
   refine Al h14 ?_
   refine Ba (c := .sc (.bool b.fHasPass)) B2 (A3 rfl) rfl ?_
   refine Al h14 ?_
   refine Gc (v := .sc (.bool (a.fHasPass == b.fHasPass))) (fun k => rfl) ?_
   refine Bv h14 (Gm q14 h14) ?_
   exact rfl
  ·refine Am h14 ?_
   refine Am h14 ?_
   refine Am h14 ?_
   refine Am h14 ?_
   refine Am h14 ?_
   refine Bu h14 (Gl q14 h14) ?_
   exact rfl
 intro b14 q14
 apply Az (b14 && (a.fPass.toList == b.fPass.toList))
 ·intro b15 q15
  refine Ae (b14) (fun h15 => ?_) (fun h15 => ?_)
  ·refine Al h15 ?_
   refine Ah ?_
   refine Al h15 ?_
   refine Ba (c := As a.fPass) B1 (A3 rfl) rfl ?_
   refine Al h15 ?_
   refine Ah ?_
   refine Al h15 ?_
   refine Ba (c := As b.fPass) B2 (A3 rfl) rfl ?_
   refine Al h15 ?_
   refine Dv rfl (A8 (Fe _ _ _) (A8 (Fe _ _ _) Dc)) (K8 (n + 0) _ a.fPass b.fPass) ?_
   refine Bv h15 (Gm q15 h15) ?_
   exact rfl
  ·refine Am h15 ?_
   refine Am h15 ?_
   refine Am h15 ?_
   refine Am h15 ?_
   refine Am h15 ?_
   refine Bu h15 (Gl q15 h15) ?_
   exact rfl
 intro b15 q15
 refine Ah ?_
 refine Ba (c := .sc (.bool a.fHasWill)) B1 (A3 rfl) rfl ?_
 refine Ah ?_
 refine Ba (c := .sc (.bool b.fHasWill)) B2 (A3 rfl) rfl ?_
 refine Gc (v := .sc (.bool (a.fHasWill == b.fHasWill))) (fun k => rfl) ?_
 apply Az ((a.fHasWill == b.fHasWill) && (a.fWTopic.toList == b.fWTopic.toList))
 ·intro b16 q16
  refine Ae ((a.fHasWill == b.fHasWill)) (fun h16 => ?_) (fun h16 => ?_)
  ·refine Al h16 ?_
   refine Ah ?_
   refine Al h16 ?_
   refine Ba (c := .sc (.string a.fWTopic)) B1 (A3 rfl) rfl ?_
   refine Al h16 ?_
   refine Ah ?_
   refine Al h16 ?_
   refine Ba (c := .sc (.string b.fWTopic)) B2 (A3 rfl) rfl ?_
   refine Al h16 ?_
   refine Bk (v := .sc (.bool (a.fWTopic.toList == b.fWTopic.toList))) (fun k => rfl) ?_
   refine Bv h16 (Gm q16 h16) ?_
   exact rfl
  ·refine Am h16 ?_
   refine Am h16 ?_
   refine Am h16 ?_
   refine Am h16 ?_
   refine Am h16 ?_
   refine Bu h16 (Gl q16 h16) ?_
   exact rfl
 intro b16 q16
 apply Az (b16 && (a.fWBody.toList == b.fWBody.toList))
 ·intro b17 q17
  refine Ae (b16) (fun h17 => ?_) (fun h17 => ?_)
  ·refine Al h17 ?_
   refine Ah ?_
   refine Al h17 ?_
   refine Ba (c := As a.fWBody) B1 (A3 rfl) rfl ?_
   refine Al h17 ?_
   refine Ah ?_
   refine Al h17 ?_
   refine Ba (c := As b.fWBody) B2 (A3 rfl) rfl ?_
   refine Al h17 ?_
   refine Dv rfl (A8 (Fe _ _ _) (A8 (Fe _ _ _) Dc)) (K8 (n + 0) _ a.fWBody b.fWBody) ?_
   refine Bv h17 (Gm q17 h17) ?_
   exact rfl
  ·refine Am h17 ?_
   refine Am h17 ?_
   refine Am h17 ?_
   refine Am h17 ?_
   refine Am h17 ?_
   refine Bu h17 (Gl q17 h17) ?_
   exact rfl
 intro b17 q17
 apply Az (b17 && (a.fWQos == b.fWQos))
 ·intro b18 q18
  refine Ae (b17) (fun h18 => ?_) (fun h18 => ?_)
  ·refine Al h18 ?_
   refine Ah ?_
   refine Al h18 ?_
   refine Ba (c := .sc (.int .i64 a.fWQos)) B1 (A3 rfl) rfl ?_
   refine Al h18 ?_
   refine Ah ?_
   refine Al h18 ?_
   refine Ba (c := .sc (.int .i64 b.fWQos)) B2 (A3 rfl) rfl ?_
   refine Al h18 ?_
   refine Bk (v := .sc (.bool (a.fWQos == b.fWQos))) (fun k => rfl) ?_
   refine Bv h18 (Gm q18 h18) ?_
   exact rfl
  ·refine Am h18 ?_
   refine Am h18 ?_
   refine Am h18 ?_
   refine Am h18 ?_
   refine Am h18 ?_
   refine Bu h18 (Gl q18 h18) ?_
   exact rfl
 intro b18 q18
 apply Az (b18 && (a.fWRetain == b.fWRetain))
 ·intro b19 q19
  refine Ae (b18) (fun h19 => ?_) (fun h19 => ?_)
  ·refine Al h19 ?_
   refine Ah ?_
   refine Al h19 ?_
   refine Ba (c := .sc (.bool a.fWRetain)) B1 (A3 rfl) rfl ?_
   refine Al h19 ?_
   refine Ah ?_
   refine Al h19 ?_
   refine Ba (c := .sc (.bool b.fWRetain)) B2 (A3 rfl) rfl ?_
   refine Al h19 ?_
   refine Gc (v := .sc (.bool (a.fWRetain == b.fWRetain))) (fun k => rfl) ?_
   refine Bv h19 (Gm q19 h19) ?_
   exact rfl
  ·refine Am h19 ?_
   refine Am h19 ?_
   refine Am h19 ?_
   refine Am h19 ?_
   refine Am h19 ?_
   refine Bu h19 (Gl q19 h19) ?_
   exact rfl
 intro b19 q19
 refine Ah ?_
 refine Ba (c := At B0 a.fWants) B1 (A3 rfl) rfl ?_
 refine Ah ?_
 refine Ba (c := At B0 b.fWants) B2 (A3 rfl) rfl ?_
 refine Dv rfl (A8 (Fe _ _ _) (A8 (Fe _ _ _) Dc)) (X3 (n + 0) (by omega) _ a.fWants b.fWants (by omega)) ?_
 apply Az ((Gk Hu a.fWants b.fWants) && (Gk O7 a.fNames b.fNames))
 ·intro b20 q20
  refine Ae ((Gk Hu a.fWants b.fWants)) (fun h20 => ?_) (fun h20 => ?_)
  ·refine Al h20 ?_
   refine Ah ?_
   refine Al h20 ?_
   refine Ba (c := Fv a.fNames) B1 (A3 rfl) rfl ?_
   refine Al h20 ?_
   refine Ah ?_
   refine Al h20 ?_
   refine Ba (c := Fv b.fNames) B2 (A3 rfl) rfl ?_
   refine Al h20 ?_
   refine Dv rfl (A8 (Fe _ _ _) (A8 (Fe _ _ _) Dc)) (Abt (n + 0) (by omega) _ a.fNames b.fNames (by omega)) ?_
   refine Bv h20 (Gm q20 h20) ?_
   exact rfl
  ·refine Am h20 ?_
   refine Am h20 ?_
   refine Am h20 ?_
   refine Am h20 ?_
   refine Am h20 ?_
   refine Bu h20 (Gl q20 h20) ?_
   exact rfl
 intro b20 q20
 apply Az (b20 && (Gk Xj a.fCodes b.fCodes))
 ·intro b21 q21
  refine Ae (b20) (fun h21 => ?_) (fun h21 => ?_)
  ·refine Al h21 ?_
   refine Ah ?_
   refine Al h21 ?_
   refine Ba (c := Fs a.fCodes) B1 (A3 rfl) rfl ?_
   refine Al h21 ?_
   refine Ah ?_
   refine Al h21 ?_
   refine Ba (c := Fs b.fCodes) B2 (A3 rfl) rfl ?_
   refine Al h21 ?_
   refine Dv rfl (A8 (Fe _ _ _) (A8 (Fe _ _ _) Dc)) (Abr (n + 0) (by omega) _ a.fCodes b.fCodes (by omega)) ?_
   refine Bv h21 (Gm q21 h21) ?_
   exact rfl
  ·refine Am h21 ?_
   refine Am h21 ?_
   refine Am h21 ?_
   refine Am h21 ?_
   refine Am h21 ?_
   refine Bu h21 (Gl q21 h21) ?_
   exact rfl
 intro b21 q21
 apply Az (b8 && b15)
 ·intro b22 q22
  refine Ae (b8) (fun h22 => ?_) (fun h22 => ?_)
  ·refine Al h22 ?_
   refine Bv h22 (Gm q22 h22) ?_
   exact rfl
  ·refine Am h22 ?_
   refine Bu h22 (Gl q22 h22) ?_
   exact rfl
 intro b22 q22
 apply Az (b22 && b19)
 ·intro b23 q23
  refine Ae (b22) (fun h23 => ?_) (fun h23 => ?_)
  ·refine Al h23 ?_
   refine Bv h23 (Gm q23 h23) ?_
   exact rfl
  ·refine Am h23 ?_
   refine Bu h23 (Gl q23 h23) ?_
   exact rfl
 intro b23 q23
 apply Az (b23 && b21)
 ·intro b24 q24
  refine Ae (b23) (fun h24 => ?_) (fun h24 => ?_)
  ·refine Al h24 ?_
   refine Bv h24 (Gm q24 h24) ?_
   exact rfl
  ·refine Am h24 ?_
   refine Bu h24 (Gl q24 h24) ?_
   exact rfl
 intro b24 q24
 apply Az (b24 && (a.fCode == b.fCode))
 ·intro b25 q25
  refine Ae (b24) (fun h25 => ?_) (fun h25 => ?_)
  ·refine Al h25 ?_
   refine Ah ?_
   refine Al h25 ?_
   refine Ba (c := .sc (.int .i64 a.fCode)) B1 (A3 rfl) rfl ?_
   refine Al h25 ?_
   refine Ah ?_
   refine Al h25 ?_
   refine Ba (c := .sc (.int .i64 b.fCode)) B2 (A3 rfl) rfl ?_
   refine Al h25 ?_
   refine Bk (v := .sc (.bool (a.fCode == b.fCode))) (fun k => rfl) ?_
   refine Bv h25 (Gm q25 h25) ?_
   exact rfl
  ·refine Am h25 ?_
   refine Am h25 ?_
   refine Am h25 ?_
   refine Am h25 ?_
   refine Am h25 ?_
   refine Bu h25 (Gl q25 h25) ?_
   exact rfl
 intro b25 q25
 apply Az (b25 && (a.fPresent == b.fPresent))
 ·intro b26 q26
  refine Ae (b25) (fun h26 => ?_) (fun h26 => ?_)
  ·refine Al h26 ?_
   refine Ah ?_
   refine Al h26 ?_
   refine Ba (c := .sc (.bool a.fPresent)) B1 (A3 rfl) rfl ?_
   refine Al h26 ?_
   refine Ah ?_
   refine Al h26 ?_
   refine Ba (c := .sc (.bool b.fPresent)) B2 (A3 rfl) rfl ?_
   refine Al h26 ?_
   refine Gc (v := .sc (.bool (a.fPresent == b.fPresent))) (fun k => rfl) ?_
   refine Bv h26 (Gm q26 h26) ?_
   exact rfl
  ·refine Am h26 ?_
   refine Am h26 ?_
   refine Am h26 ?_
   refine Am h26 ?_
   refine Am h26 ?_
   refine Bu h26 (Gl q26 h26) ?_
   exact rfl
 intro b26 q26
 exact Es (by subst_vars; simp only [D4, Lw, Fw]; ac_rfl)
end
section
open Go
section
variable {ti : Nat → Option TI} {tp : Nat → Option (List Nat)} {H : Ab}
theorem Lq {d d' : Nat} (hd : ∀ ty x t I, Cc ti tp H d ty x = some (t, I) → F7 ti tp d' ty t → Cc ti tp H d' ty x = some (t, I)) : ∀ (ts : List Nat) (xs cells : List AV) (I : List Nat), Cq (Cc ti tp H d) ts xs = some (cells, I) → Ed (F7 ti tp d') ts cells → Cq (Cc ti tp H d') ts xs = some (cells, I)
 | ts, [], cells, I, h, _ => by
  obtain ⟨rfl, e⟩ := Iv h
  cases e
  rfl
 | [], _ :: _, _, _, h, _ => by simp [Cq] at h
 | t :: ts, x :: xs, cells, I, h, ho => by
  obtain ⟨a, b, h1, h2, e⟩ := F1 h
  cases e
  have e1 := hd t x a.1 a.2 h1 ho.1
  have e2 := Lq hd ts xs b.1 b.2 h2 ho.2
  rw [Cq, e1, Option.bind_some, e2]
  rfl
theorem Ib : ∀ (d d' ty : Nat) (x t : AV) (I : List Nat), Cc ti tp H d ty x = some (t, I) → F7 ti tp d' ty t → Cc ti tp H d' ty x = some (t, I)
 | 0, _, _, _, _, _, h, _ => by simp [Cc] at h
 | d + 1, 0, _, _, _, _, _, ho => by cases ho
 | d + 1, d' + 1, ty, x, t, I, h, ho => by
  cases x with
  | sc v =>
   obtain ⟨rfl, rfl⟩ : AV.sc v = t ∧ [] = I := by simpa [Cc] using h
   rfl
  | nl =>
   obtain ⟨rfl, rfl⟩ : AV.ro 0 [] = t ∧ [] = I := by simpa [Cc] using h
   rfl
  | sl id off n z =>
   rw [Gi] at h ⊢
   simp only [Option.bind_eq_some_iff] at h
   obtain ⟨i, h1, j, h2, h3⟩ := h
   split at h3
   case isFalse => cases h3
   rename_i hz
   split at h3
   case isFalse => cases h3
   rename_i ha
   simp only [Option.bind_eq_some_iff] at h3
   obtain ⟨cs, h4, q, h5, h6⟩ := h3
   obtain ⟨rfl, rfl⟩ : AV.ro n q.1 = t ∧ id :: q.2 = I := by simpa using h6
   obtain ⟨i', j', g1, g2, g3, g4⟩ := ho
   rw [h1] at g1
   cases g1
   rw [h2] at g2
   cases g2
   have e3 := Lq (fun ty x t I h ho => Ib d d' ty x t I h ho) _ _ _ _ h5 g4
   rw [hz] at h4
   simp only [h1, h2, Option.bind_some, hz, if_true, ha, h4, e3]
  | agg cs =>
   rw [Fu] at h ⊢
   simp only [Option.bind_eq_some_iff] at h
   obtain ⟨i, h1, q, h2, h3⟩ := h
   obtain ⟨rfl, rfl⟩ : AV.agg q.1 = t ∧ q.2 = I := by simpa using h3
   obtain ⟨i', g1, g2⟩ := ho
   rw [h1] at g1
   cases g1
   have e3 := Lq (fun ty x t I h ho => Ib d d' ty x t I h ho) _ _ _ _ h2 g2
   rw [h1, Option.bind_some, e3]
   rfl
  | tup cs =>
   rw [Hd] at h ⊢
   simp only [Option.bind_eq_some_iff] at h
   obtain ⟨i, h1, q, h2, h3⟩ := h
   obtain ⟨rfl, rfl⟩ : AV.tup q.1 = t ∧ q.2 = I := by simpa using h3
   obtain ⟨i', g1, g2⟩ := ho
   rw [h1] at g1
   cases g1
   have e3 := Lq (fun ty x t I h ho => Ib d d' ty x t I h ho) _ _ _ _ h2 g2
   rw [h1, Option.bind_some, e3]
   rfl
  | _ => simp [Cc] at h
theorem Tz {d : Nat} (hd : ∀ ty x t I, Cc ti tp H d ty x = some (t, I) → B8 H d x = some t) : ∀ (ts : List Nat) (xs cells : List AV) (I : List Nat), Cq (Cc ti tp H d) ts xs = some (cells, I) → xs.mapM (B8 H d) = some cells
 | ts, [], cells, I, h => by
  obtain ⟨rfl, e⟩ := Iv h
  cases e
  rfl
 | [], _ :: _, _, _, h => by simp [Cq] at h
 | t :: ts, x :: xs, cells, I, h => by
  obtain ⟨a, b, h1, h2, e⟩ := F1 h
  cases e
  simp only [List.mapM_cons, hd t x a.1 a.2 h1, Tz hd ts xs b.1 b.2 h2, Option.pure_def, Option.bind_eq_bind, Option.bind_some]
theorem Ls : ∀ (d ty : Nat) (x t : AV) (I : List Nat), Cc ti tp H d ty x = some (t, I) → B8 H d x = some t
 | 0, _, _, _, _, h => by simp [Cc] at h
 | d + 1, ty, x, t, I, h => by
  have ih := Tz (ti := ti) (tp := tp) (H := H) (d := d) (fun ty x t I h => Ls d ty x t I h)
  cases x with
  | sc v =>
   obtain ⟨rfl, rfl⟩ : AV.sc v = t ∧ [] = I := by simpa [Cc] using h
   rfl
  | nl =>
   obtain ⟨rfl, rfl⟩ : AV.ro 0 [] = t ∧ [] = I := by simpa [Cc] using h
   rfl
  | sl id off n z =>
   rw [Gi] at h
   simp only [Option.bind_eq_some_iff] at h
   obtain ⟨i, h1, j, h2, h3⟩ := h
   split at h3
   case isFalse => cases h3
   split at h3
   case isFalse => cases h3
   simp only [Option.bind_eq_some_iff] at h3
   obtain ⟨cs, h4, q, h5, h6⟩ := h3
   obtain ⟨rfl, rfl⟩ : AV.ro n q.1 = t ∧ id :: q.2 = I := by simpa using h6
   rw [O1, h4, Option.bind_some, ih _ _ _ _ h5]
   rfl
  | agg cs =>
   rw [Fu] at h
   simp only [Option.bind_eq_some_iff] at h
   obtain ⟨i, h1, q, h2, h3⟩ := h
   obtain ⟨rfl, rfl⟩ : AV.agg q.1 = t ∧ q.2 = I := by simpa using h3
   rw [Ka, ih _ _ _ _ h2]
   rfl
  | tup cs =>
   rw [Hd] at h
   simp only [Option.bind_eq_some_iff] at h
   obtain ⟨i, h1, q, h2, h3⟩ := h
   obtain ⟨rfl, rfl⟩ : AV.tup q.1 = t ∧ q.2 = I := by simpa using h3
   show (cs.mapM (B8 H d)).bind _ = _
   rw [ih _ _ _ _ h2]
   rfl
  | _ => simp [Cc] at h
theorem J4 {f g : Nat → AV → Prop} (hfg : ∀ t x, f t x → g t x) : ∀ {ts : List Nat} {cs : List AV}, Ed f ts cs → Ed g ts cs
 | [], [], h => h
 | _ :: ts, _ :: cs, h => ⟨hfg _ _ h.1, J4 hfg h.2⟩
theorem Ok : ∀ (d ty : Nat) (x : AV), F7 ti tp d ty x → F7 ti tp (d + 1) ty x
 | 0, _, _, h => by cases h
 | d + 1, ty, x, h => by
  cases x with
  | sc v => trivial
  | ro n cells =>
   obtain ⟨i, j, h1, h2, h3, h4⟩ := h
   exact ⟨i, j, h1, h2, h3, J4 (Ok d) h4⟩
  | agg cs =>
   obtain ⟨i, h1, h2⟩ := h
   exact ⟨i, h1, J4 (Ok d) h2⟩
  | tup cs =>
   obtain ⟨i, h1, h2⟩ := h
   exact ⟨i, h1, J4 (Ok d) h2⟩
  | _ => cases h
theorem Av {d d' ty : Nat} {x : AV} (h : F7 ti tp d ty x) (hd : d ≤ d') : F7 ti tp d' ty x := by
 induction hd with
 | refl => exact h
 | step _ ih => exact Ok _ _ _ ih
theorem Ahw {d d' : Nat} {ts : List Nat} {cs : List AV} (h : Ed (F7 ti tp d) ts cs) (hd : d ≤ d') : Ed (F7 ti tp d') ts cs := J4 (fun _ _ h => Av h hd) h
end
inductive Ck where
 | blk (id : Nat) (cs : List AV) (a : Bool)
 | own (x : AV) (ty : Nat) (t : AV)
 | shr (x : AV) (ty : Nat) (t : AV) (y : AV) (ty' : Nat) (t' : AV)
 | shs (x : AV) (ty : Nat) (t : AV) (ys : List (AV × Nat × AV))
def CkOk (H : Ab) (c : Ck) (I : List Nat) : Prop :=
 match c with
 | .blk id cs a => I = [id] ∧ H[id]? = some ⟨cs, true, a⟩
 | .own x ty t => A4 x = true ∧ F7 Ag E0.tp 6 ty t ∧ Cc Ag E0.tp H 6 ty x = some (t, I)
 | .shr x ty t y ty' t' => (A4 x = true ∧ F7 Ag E0.tp 6 ty t ∧ Cc Ag E0.tp H 6 ty x = some (t, I)) ∧ F7 Ag E0.tp 6 ty' t' ∧ ∃ J, Cc Ag E0.tp H 6 ty' y = some (t', J) ∧ ∀ i ∈ J, i ∈ I
 | .shs x ty t ys => (A4 x = true ∧ F7 Ag E0.tp 6 ty t ∧ Cc Ag E0.tp H 6 ty x = some (t, I)) ∧ ∀ q ∈ ys, F7 Ag E0.tp 6 q.2.1 q.2.2 ∧ ∃ J, Cc Ag E0.tp H 6 q.2.1 q.1 = some (q.2.2, J) ∧ ∀ i ∈ J, i ∈ I
def SepI (H : Ab) : List Ck → List Nat → Prop
 | [], I => I = []
 | c :: L, I => ∃ J R, I = J ++ R ∧ CkOk H c J ∧ SepI H L R
def Sep (H : Ab) (L : List Ck) : Prop := ∃ I, SepI H L I ∧ I.Nodup
inductive Pk : List Ck → Ck → List Ck → Prop
 | here {c : Ck} {L : List Ck} : Pk (c :: L) c L
 | there {a c : Ck} {L L' : List Ck} : Pk L c L' → Pk (a :: L) c (a :: L')
section
variable {H H' : Ab} {L L' L1 L2 : List Ck} {c : Ck} {I J R : List Nat}
theorem Ks : Sep H [] := ⟨[], rfl, List.nodup_nil⟩
theorem CkOk.frame (h : CkOk H c I) (hs : ∀ i ∈ I, H'[i]? = H[i]?) : CkOk H' c I := by
 cases c with
 | blk id cs a =>
  obtain ⟨rfl, h2⟩ := h
  exact ⟨rfl, by rw [hs id (by simp)]; exact h2⟩
 | own x ty t => exact ⟨h.1, h.2.1, D9 6 ty x _ h.2.2 hs⟩
 | shr x ty t y ty' t' =>
  obtain ⟨⟨h1, h2, h3⟩, h4, J, h5, h6⟩ := h
  exact ⟨⟨h1, h2, D9 6 ty x _ h3 hs⟩, h4, J, D9 6 ty' y _ h5 fun i hi => hs i (h6 i hi), h6⟩
 | shs x ty t ys =>
  obtain ⟨⟨h1, h2, h3⟩, h4⟩ := h
  exact ⟨⟨h1, h2, D9 6 ty x _ h3 hs⟩, fun q hq => by
   obtain ⟨g1, J, g2, g3⟩ := h4 q hq
   exact ⟨g1, J, D9 6 _ _ _ g2 fun i hi => hs i (g3 i hi), g3⟩⟩
theorem CkOk.lt (h : CkOk H c I) : ∀ i ∈ I, i < H.length := by
 cases c with
 | blk id cs a =>
  obtain ⟨rfl, h2⟩ := h
  intro i hi
  rw [List.mem_singleton] at hi
  subst hi
  exact (List.getElem?_eq_some_iff.1 h2).1
 | own x ty t => exact Kq 6 ty x _ h.2.2
 | shr x ty t y ty' t' => exact Kq 6 ty x _ h.1.2.2
 | shs x ty t ys => exact Kq 6 ty x _ h.1.2.2
theorem SepI.frame : ∀ {L : List Ck} {I : List Nat}, SepI H L I → (∀ i ∈ I, H'[i]? = H[i]?) → SepI H' L I
 | [], I, h, _ => h
 | c :: L, I, h, hs => by
  obtain ⟨J, R, rfl, h1, h2⟩ := h
  exact ⟨J, R, rfl, h1.frame fun i hi => hs i (List.mem_append_left _ hi), h2.frame fun i hi => hs i (List.mem_append_right _ hi)⟩
theorem SepI.lt : ∀ {L : List Ck} {I : List Nat}, SepI H L I → ∀ i ∈ I, i < H.length
 | [], I, h => by
  cases (show I = [] from h)
  intro i hi
  cases hi
 | c :: L, I, h => by
  obtain ⟨J, R, rfl, h1, h2⟩ := h
  intro i hi
  rcases List.mem_append.1 hi with hi | hi
  ·exact h1.lt i hi
  ·exact h2.lt i hi
theorem SepI.grow (h : SepI H L I) (X : List Fz) : SepI (H ++ X) L I := h.frame fun i hi => List.getElem?_append_left (h.lt i hi)
theorem Sep.grow (h : Sep H L) (X : List Fz) : Sep (H ++ X) L := by
 obtain ⟨I, h1, h2⟩ := h
 exact ⟨I, h1.grow X, h2⟩
theorem Sep.new {X : List Fz} (hs : Sep H L) (hc : CkOk (H ++ X) c J) (hJ : J.Nodup) (hge : ∀ i ∈ J, H.length ≤ i) : Sep (H ++ X) (c :: L) := by
 obtain ⟨I, h1, h2⟩ := hs
 refine ⟨J ++ I, ⟨J, I, rfl, hc, h1.grow X⟩, List.nodup_append.2 ⟨hJ, h2, fun a ha b hb e => ?_⟩⟩
 have := h1.lt b hb
 have := hge a ha
 omega
theorem Pk.sepI : ∀ {L L' : List Ck} {c : Ck} {I : List Nat}, Pk L c L' → SepI H L I → ∃ J R, CkOk H c J ∧ SepI H L' R ∧ I.Perm (J ++ R)
 | _, _, _, _, .here, h => by
  obtain ⟨J, R, rfl, h1, h2⟩ := h
  exact ⟨J, R, h1, h2, List.Perm.refl _⟩
 | _, _, _, _, .there p, h => by
  obtain ⟨J, R, rfl, h1, h2⟩ := h
  obtain ⟨J', R', g1, g2, g3⟩ := p.sepI h2
  refine ⟨J', J ++ R', g1, ⟨J, R', rfl, h1, g2⟩, ?_⟩
  refine (List.Perm.append_left J g3).trans ?_
  rw [← List.append_assoc, ← List.append_assoc]
  exact List.Perm.append_right R' List.perm_append_comm
theorem Sep.pick (h : Sep H L) (p : Pk L c L') : Sep H (c :: L') := by
 obtain ⟨I, h1, h2⟩ := h
 obtain ⟨J, R, g1, g2, g3⟩ := p.sepI h1
 exact ⟨J ++ R, ⟨J, R, rfl, g1, g2⟩, g3.nodup_iff.1 h2⟩
theorem Sep.tail (h : Sep H (c :: L)) : Sep H L := by
 obtain ⟨I, ⟨J, R, rfl, h1, h2⟩, h3⟩ := h
 exact ⟨R, h2, (List.nodup_append.1 h3).2.1⟩
theorem Sep.blk {id : Nat} {cs : List AV} {a : Bool} (h : Sep H L) (p : Pk L (.blk id cs a) L') : H[id]? = some ⟨cs, true, a⟩ := by
 obtain ⟨I, ⟨J, R, rfl, h1, h2⟩, h3⟩ := h.pick p
 exact h1.2
theorem Sep.put {id : Nat} {cs : List AV} {a : Bool} (h : Sep H L) (p : Pk L (.blk id cs a) L') (cs' : List AV) (a' : Bool) : Sep (H.set id ⟨cs', true, a'⟩) (.blk id cs' a' :: L') := by
 obtain ⟨I, ⟨J, R, rfl, ⟨rfl, h1⟩, h2⟩, h3⟩ := h.pick p
 have hn := (List.nodup_cons.1 h3).1
 have hl := (List.getElem?_eq_some_iff.1 h1).1
 refine ⟨[id] ++ R, ⟨[id], R, rfl, ⟨rfl, by rw [List.getElem?_set_self hl]⟩, h2.frame fun i hi => ?_⟩, h3⟩
 rw [List.getElem?_set_ne]
 rintro rfl
 exact hn hi
theorem Sep.own {x t : AV} {ty : Nat} (h : Sep H L) (p : Pk L (.own x ty t) L') : A4 x = true ∧ F7 Ag E0.tp 6 ty t ∧ ∃ I, Cc Ag E0.tp H 6 ty x = some (t, I) ∧ I.Nodup := by
 obtain ⟨I, ⟨J, R, rfl, ⟨h0, h1, h1'⟩, h2⟩, h3⟩ := h.pick p
 exact ⟨h0, h1, J, h1', (List.nodup_append.1 h3).1⟩
theorem Sep.seen {x t y t' : AV} {ty ty' : Nat} (h : Sep H L) (p : Pk L (.shr x ty t y ty' t') L') : F7 Ag E0.tp 6 ty' t' ∧ ∃ I, Cc Ag E0.tp H 6 ty' y = some (t', I) := by
 obtain ⟨I, ⟨J, R, rfl, ⟨h0, h1, J', h1', h3⟩, h2⟩, h4⟩ := h.pick p
 exact ⟨h1, J', h1'⟩
theorem Sep.toShs {x t : AV} {ty : Nat} (h : Sep H L) (p : Pk L (.own x ty t) L') : Sep H (.shs x ty t [] :: L') := by
 obtain ⟨I, ⟨J, R, rfl, h0, h2⟩, h3⟩ := h.pick p
 exact ⟨J ++ R, ⟨J, R, rfl, ⟨h0, fun q hq => by cases hq⟩, h2⟩, h3⟩
theorem Sep.ofShs {x t : AV} {ty : Nat} {ys : List (AV × Nat × AV)} (h : Sep H L) (p : Pk L (.shs x ty t ys) L') : Sep H (.own x ty t :: L') := by
 obtain ⟨I, ⟨J, R, rfl, ⟨h0, _⟩, h2⟩, h3⟩ := h.pick p
 exact ⟨J ++ R, ⟨J, R, rfl, h0, h2⟩, h3⟩
theorem Sep.seenS {x t : AV} {ty k : Nat} {ys : List (AV × Nat × AV)} {q : AV × Nat × AV} (h : Sep H L) (p : Pk L (.shs x ty t ys) L') (hk : ys[k]? = some q) : F7 Ag E0.tp 6 q.2.1 q.2.2 ∧ ∃ I, Cc Ag E0.tp H 6 q.2.1 q.1 = some (q.2.2, I) := by
 obtain ⟨I, ⟨J, R, rfl, ⟨h0, h1⟩, h2⟩, h4⟩ := h.pick p
 obtain ⟨g1, J', g2, _⟩ := h1 q (List.mem_of_getElem? hk)
 exact ⟨g1, J', g2⟩
theorem Sep.nl {ty : Nat} (h : Sep H L) (hty : ∃ i j, Ag ty = some i ∧ Ag i.elem = some j) : Sep H (.own .nl ty (.ro 0 []) :: L) := by
 obtain ⟨I, h1, h2⟩ := h
 obtain ⟨i, j, e1, e2⟩ := hty
 exact ⟨[] ++ I, ⟨[], I, rfl, ⟨rfl, ⟨i, j, e1, e2, by simp, by simp [Ed]⟩, rfl⟩, h1⟩, h2⟩
inductive OwnR : List Ck → List AV → List Nat → List AV → List Ck → Prop
 | nil {L : List Ck} : OwnR L [] [] [] L
 | sc {L L' : List Ck} {v : Value} {raw cells : List AV} {ty : Nat} {tys : List Nat} : OwnR L raw tys cells L' → OwnR L (.sc v :: raw) (ty :: tys) (.sc v :: cells) L'
 | nl {L L' : List Ck} {raw cells : List AV} {ty : Nat} {tys : List Nat} : OwnR L raw tys cells L' → OwnR L (.nl :: raw) (ty :: tys) (.ro 0 [] :: cells) L'
 | own {L L1 L' : List Ck} {x t : AV} {raw cells : List AV} {ty : Nat} {tys : List Nat} : Pk L (.own x ty t) L1 → OwnR L1 raw tys cells L' → OwnR L (x :: raw) (ty :: tys) (t :: cells) L'
 | agg {L L1 L' : List Ck} {cs ts raw cells : List AV} {ty : Nat} {tys cty : List Nat} : (∃ i, Ag ty = some i ∧ i.cty = cty) → OwnR L cs cty ts L1 → OwnR L1 raw tys cells L' → OwnR L (.agg cs :: raw) (ty :: tys) (.agg ts :: cells) L'
theorem OwnR.sound : ∀ {L L' : List Ck} {raw cells : List AV} {tys : List Nat} {I : List Nat}, OwnR L raw tys cells L' → SepI H L I → ∀ d, Ed (F7 Ag E0.tp d) tys cells → ∃ J R, Cq (Cc Ag E0.tp H d) tys raw = some (cells, J) ∧ SepI H L' R ∧ I.Perm (J ++ R)
 | _, _, _, _, _, I, .nil, h, d, _ => ⟨[], I, rfl, h, List.Perm.refl _⟩
 | _, _, _, _, _, I, .sc q, h, d + 1, ho => by
  obtain ⟨J, R, h1, h2, h3⟩ := q.sound h (d + 1) ho.2
  refine ⟨J, R, ?_, h2, h3⟩
  rw [Cq, Qr, Option.bind_some, h1]
  rfl
 | _, _, _, _, _, I, .nl q, h, d + 1, ho => by
  obtain ⟨J, R, h1, h2, h3⟩ := q.sound h (d + 1) ho.2
  refine ⟨J, R, ?_, h2, h3⟩
  rw [Cq, show Cc Ag E0.tp H (d + 1) _ .nl = some (.ro 0 [], []) from rfl, Option.bind_some, h1]
  rfl
 | _, _, _, _, _, I, .own p q, h, d, ho => by
  obtain ⟨J1, R1, g1, g2, g3⟩ := p.sepI h
  obtain ⟨J, R, h1, h2, h3⟩ := q.sound g2 d ho.2
  have e := Ib 6 d _ _ _ _ g1.2.2 ho.1
  refine ⟨J1 ++ J, R, ?_, h2, ?_⟩
  ·rw [Cq, e, Option.bind_some, h1]
   rfl
  ·refine g3.trans ?_
   rw [List.append_assoc]
   exact List.Perm.append_left J1 h3
 | _, _, _, _, _, I, .agg hty p q, h, d + 1, ho => by
  obtain ⟨i, e1, rfl⟩ := hty
  obtain ⟨i', g1, g2⟩ := ho.1
  rw [e1] at g1
  cases g1
  obtain ⟨J1, R1, a1, a2, a3⟩ := p.sound h (d + 1) (Ahw g2 (Nat.le_succ d))
  obtain ⟨J, R, h1, h2, h3⟩ := q.sound a2 (d + 1) ho.2
  have a1' := Lq (fun ty x t I h ho => Ib (d + 1) d ty x t I h ho) _ _ _ _ a1 g2
  refine ⟨J1 ++ J, R, ?_, h2, ?_⟩
  ·rw [Cq, Fu, e1, Option.bind_some, a1', Option.bind_some, Option.bind_some, h1]
   rfl
  ·refine a3.trans ?_
   rw [List.append_assoc]
   exact List.Perm.append_left J1 h3
 | _, _, _, _, _, I, .sc q, h, 0, ho => by cases ho.1
 | _, _, _, _, _, I, .nl q, h, 0, ho => by cases ho.1
 | _, _, _, _, _, I, .agg _ p q, h, 0, ho => by cases ho.1
end
end
section
open Go
theorem Do {a0 x : Ck} {L : List Ck} : Pk (a0 :: x :: L) x (a0 :: L) := .there (.here)
theorem Dn {a0 a1 x : Ck} {L : List Ck} : Pk (a0 :: a1 :: x :: L) x (a0 :: a1 :: L) := .there (.there (.here))
theorem Mn {a0 a1 a2 x : Ck} {L : List Ck} : Pk (a0 :: a1 :: a2 :: x :: L) x (a0 :: a1 :: a2 :: L) := .there (.there (.there (.here)))
theorem I6 {a0 a1 a2 a3 x : Ck} {L : List Ck} : Pk (a0 :: a1 :: a2 :: a3 :: x :: L) x (a0 :: a1 :: a2 :: a3 :: L) := .there (.there (.there (.there (.here))))
theorem S9 {a0 a1 a2 a3 a4 x : Ck} {L : List Ck} : Pk (a0 :: a1 :: a2 :: a3 :: a4 :: x :: L) x (a0 :: a1 :: a2 :: a3 :: a4 :: L) := .there (.there (.there (.there (.there (.here)))))
theorem zP6 {a0 a1 a2 a3 a4 a5 x : Ck} {L : List Ck} : Pk (a0 :: a1 :: a2 :: a3 :: a4 :: a5 :: x :: L) x (a0 :: a1 :: a2 :: a3 :: a4 :: a5 :: L) := .there (.there (.there (.there (.there (.there (.here))))))
theorem zP7 {a0 a1 a2 a3 a4 a5 a6 x : Ck} {L : List Ck} : Pk (a0 :: a1 :: a2 :: a3 :: a4 :: a5 :: a6 :: x :: L) x (a0 :: a1 :: a2 :: a3 :: a4 :: a5 :: a6 :: L) := .there (.there (.there (.there (.there (.there (.there (.here)))))))
theorem zP8 {a0 a1 a2 a3 a4 a5 a6 a7 x : Ck} {L : List Ck} : Pk (a0 :: a1 :: a2 :: a3 :: a4 :: a5 :: a6 :: a7 :: x :: L) x (a0 :: a1 :: a2 :: a3 :: a4 :: a5 :: a6 :: a7 :: L) := .there (.there (.there (.there (.there (.there (.there (.there (.here))))))))
theorem zP9 {a0 a1 a2 a3 a4 a5 a6 a7 a8 x : Ck} {L : List Ck} : Pk (a0 :: a1 :: a2 :: a3 :: a4 :: a5 :: a6 :: a7 :: a8 :: x :: L) x (a0 :: a1 :: a2 :: a3 :: a4 :: a5 :: a6 :: a7 :: a8 :: L) := .there (.there (.there (.there (.there (.there (.there (.there (.there (.here)))))))))
theorem Qj {a0 a1 a2 a3 a4 a5 a6 a7 a8 a9 x : Ck} {L : List Ck} : Pk (a0 :: a1 :: a2 :: a3 :: a4 :: a5 :: a6 :: a7 :: a8 :: a9 :: x :: L) x (a0 :: a1 :: a2 :: a3 :: a4 :: a5 :: a6 :: a7 :: a8 :: a9 :: L) := .there (.there (.there (.there (.there (.there (.there (.there (.there (.there (.here))))))))))
theorem Xh {a0 a1 a2 a3 a4 a5 a6 a7 a8 a9 a10 x : Ck} {L : List Ck} : Pk (a0 :: a1 :: a2 :: a3 :: a4 :: a5 :: a6 :: a7 :: a8 :: a9 :: a10 :: x :: L) x (a0 :: a1 :: a2 :: a3 :: a4 :: a5 :: a6 :: a7 :: a8 :: a9 :: a10 :: L) := .there (.there (.there (.there (.there (.there (.there (.there (.there (.there (.there (.here)))))))))))
def Gd {β : Type} (G : Option β → Prop) (o : Option β) : Prop := G o
section
variable {β : Type} {n : Nat} {H : Ab} {L L' L1 L2 : List Ck} {G : Option β → Prop} {K : AV → Option β} {KH : KO β}
theorem Fc {a b : Option β} (e : a = b) (h : Gd G b) : Gd G a := by rw [e]; exact h
theorem H4 {cs : List AV} (hs : Sep H L) (h : ∀ i H', Sep H' (.blk i cs true :: L) → Gd G (KH (.ptr i 0) H')) : Gd G (K4 cs H fun x H => KH x H) :=
 h _ _ (hs.new (J := [H.length]) ⟨rfl, by rw [List.getElem?_append_right (Nat.le_refl _), Nat.sub_self]; rfl⟩ (by simp) (by simp))
theorem Tk {x : AV} {cs : List AV} (hs : Sep H L) (hc : Bz x = some cs) (h : ∀ i H', Sep H' (.blk i cs true :: L) → Gd G (KH (.ptr i 0) H')) : Gd G (Sf x H fun x H => KH x H) := by
 refine Fc (b := K4 cs H fun x H => KH x H) ?_ (H4 hs h)
 show (Bz x).bind _ = _
 rw [hc]
 rfl
theorem Ip {cs : List AV} (h : cs.all E6 = true) : Bz (.agg cs) = some cs := V9 h
theorem Ai {cs : List AV} (h : cs.all A4 = true) : Bz (.agg cs) = some cs := by
 show (if cs.all A4 then some cs else none) = _
 rw [if_pos h]
theorem Aa {x : AV} {xs : List AV} (h : A4 x = true) (hs : xs.all A4 = true) : (x :: xs).all A4 = true := by
 rw [List.all_cons, h, hs]
 rfl
theorem Ak {x : AV} (h : A4 x = true) : Bz x = some [x] := by
 cases x <;> simp_all [Bz, A4]
theorem Bp {i o : Nat} {cs : List AV} {a : Bool} {c : AV} (hs : Sep H L) (hp : Pk L (.blk i cs a) L1) (hc : cs[o]? = some c) (h : Gd G (K c)) : Gd G (Bh false 1 (.ptr i o) H fun x => K x) := by
 refine Fc ?_ h
 obtain ⟨hlt, he⟩ := List.getElem?_eq_some_iff.1 hc
 have e : An H i o 1 = some [c] := by
  simp only [An, hs.blk hp, if_true]
  rw [if_pos (by omega), List.drop_eq_getElem_cons hlt, he]
  rfl
 exact Zc e _
theorem Ak2 {i o w : Nat} {cs ds : List AV} {a : Bool} (hs : Sep H L) (hp : Pk L (.blk i cs a) L1) (hl : o + w ≤ cs.length) (hc : (cs.drop o).take w = ds) (h : Gd G (K (.agg ds))) : Gd G (Bh true w (.ptr i o) H fun x => K x) := by
 refine Fc ?_ h
 have e : An H i o w = some ds := by
  simp only [An, hs.blk hp, if_true]
  rw [if_pos hl, hc]
 exact ldT e _
theorem Ao {i w : Nat} {cs : List AV} {a : Bool} (hs : Sep H L) (hp : Pk L (.blk i cs a) L1) (hl : cs.length = w) (h : Gd G (K (.agg cs))) : Gd G (Bh true w (.ptr i 0) H fun x => K x) :=
 Ak2 hs hp (by omega) (by rw [List.drop_zero, ← hl, List.take_length]) h
theorem A5 {i o w : Nat} {cs cs' ds : List AV} {a : Bool} {y : AV} {KS : Ab → Option β} (hs : Sep H L) (hp : Pk L (.blk i cs a) L1) (hy : Bz y = some ds) (hd : ds.length = w) (hl : o + w ≤ cs.length) (hc : Ch cs o ds = cs') (h : ∀ H', Sep H' (.blk i cs' a :: L1) → Gd G (KS H')) : Gd G (C2 w (.ptr i o) y H fun H => KS H) := by
 have hb := hs.blk hp
 refine Fc (He w i o y ⟨cs, true, a⟩ ds H _ hb hy hd hl rfl) ?_
 have := hs.put hp cs' a
 rw [← hc] at this
 exact h _ (by rw [← hc]; exact this)
theorem Ak4 {cells : List AV} {c : AV} (hc : cells[0]? = some c) (h : Gd G (K c)) : Gd G (Bh false 1 (.rp cells) H fun x => K x) := by
 cases cells with
 | nil => cases hc
 | cons x xs =>
  obtain rfl : x = c := by simpa using hc
  refine Fc (Jo x xs H _) h
theorem Ak3 {w : Nat} {cs rest : List AV} (hw : cs.length = w) (h : Gd G (K (.agg cs))) : Gd G (Bh true w (.rp (cs ++ rest)) H fun x => K x) := Fc (Mp w cs rest H _ hw) h
theorem Ac {o i off o' : Nat} (e : off + o = o') (h : Gd G (K (.ptr i o'))) : Gd G (Di o (.ptr i off) fun x => K x) := by subst e; exact h
theorem Ahb {o : Nat} {cells : List AV} (h : Gd G (K (.rp (cells.drop o)))) : Gd G (Di o (.rp cells) fun x => K x) := h
theorem E5 {zs cs : List AV} {ps : List (Nat × Nat × AV)} {KL : List AV → Option β} (hf : Ez zs ps = some cs) (h : Gd G (KL cs)) : Gd G ((Ez zs ps).bind fun c => KL c) := by
 rw [hf]
 exact h
theorem Air {m : Nat} {cs : List AV} (h : Gd G (K (.sc (.int .i64 m)))) : Gd G (Gn (.ro m cs) fun x => K x) := h
theorem Bx {a b : Int} (h : Gd G (K (.sc (.bool (decide (a = b)))))) : Gd G (Bn .eql (.sc (.int .i64 a)) (.sc (.int .i64 b)) fun t => K t) := h
theorem N6 {a b : Int} (h : Gd G (K (.sc (.bool (!decide (a = b)))))) : Gd G (Bn .neq (.sc (.int .i64 a)) (.sc (.int .i64 b)) fun t => K t) := h
theorem AeC {a b : Int} (h : Gd G (K (.sc (.bool (decide (a < b)))))) : Gd G (Bn .lss (.sc (.int .i64 a)) (.sc (.int .i64 b)) fun t => K t) := h
theorem Aiq {a b : Int} (h : Gd G (K (.sc (.bool (decide (b < a)))))) : Gd G (Bn .gtr (.sc (.int .i64 a)) (.sc (.int .i64 b)) fun t => K t) := h
theorem Jy {a b : Int} (h0 : -9223372036854775808 ≤ a + b) (h1 : a + b ≤ 9223372036854775807) (h : Gd G (K (.sc (.int .i64 (a + b))))) : Gd G (Bn .add (.sc (.int .i64 a)) (.sc (.int .i64 b)) fun t => K t) := by
 refine Fc ?_ h
 show K (.sc (.int .i64 (IntKind.i64.wrap (a + b)))) = _
 rw [Gs _ h0 h1]
theorem Ky {b : Bool} (h : Gd G (K (.sc (.bool (!b))))) : Gd G (pUn .not (.sc (.bool b)) fun t => K t) := h
theorem Hv {α : Sort _} {γ : Type} {G : Option γ → Prop} {x : α} {f : α → Option γ} (h : Gd G (f x)) : Gd G (M1 x f) := h
theorem C9 {b : Bool} {x y : Option β} (hb : b = true) (h : Gd G x) : Gd G (Cb (.sc (.bool b)) x y) := by subst hb; exact h
theorem B5 {b : Bool} {x y : Option β} (hb : b = false) (h : Gd G y) : Gd G (Cb (.sc (.bool b)) x y) := by subst hb; exact h
theorem C1 {b t : Bool} {m : (KO β) → Option β} (hb : b = t) (h : Gd G (m fun x H => KH x H)) : Gd G (Gw (.sc (.bool b)) t H m fun x H => KH x H) := by
 subst hb
 cases b <;> exact h
theorem El {b t : Bool} {m : (KO β) → Option β} (hb : b = !t) (h : Gd G (KH (.sc undef) H)) : Gd G (Gw (.sc (.bool b)) t H m fun x H => KH x H) := by
 subst hb
 cases t <;> exact h
theorem Aj3 {t : Bool} {m : (KO β) → Option β} (h : Gd G (KH (.sc undef) H)) : Gd G (Gw (.sc undef) t H m fun x H => KH x H) := h
theorem Ld {b : Bool} {x y : AV} (hb : b = true) (h : Gd G (K x)) : Gd G (Mr (.sc (.bool b)) x y fun t => K t) := by
 subst hb
 cases x <;> cases y <;> exact h
theorem Hg {b : Bool} {x y : AV} (hb : b = false) (h : Gd G (K y)) : Gd G (Mr (.sc (.bool b)) x y fun t => K t) := by
 subst hb
 cases x <;> cases y <;> exact h
inductive VwC (L : List Ck) : Nat → AV → AV → Prop
 | sc {d : Nat} {v : Value} : VwC L (d + 1) (.sc v) (.sc v)
 | nl {d : Nat} : VwC L (d + 1) .nl (.ro 0 [])
 | ro {d n : Nat} {cs : List AV} : VwC L (d + 1) (.ro n cs) (.ro n cs)
 | rp {d : Nat} {cs : List AV} : VwC L (d + 1) (.rp cs) (.rp cs)
 | own {d : Nat} {x t : AV} {ty : Nat} {L' : List Ck} : 6 ≤ d → Pk L (.own x ty t) L' → VwC L d x t
 | shr {d : Nat} {x t y t' : AV} {ty ty' : Nat} {L' : List Ck} : 6 ≤ d → Pk L (.shr x ty t y ty' t') L' → VwC L d y t'
 | shsE {d k : Nat} {x t y t' : AV} {ty ty' : Nat} {ys : List (AV × Nat × AV)} {L' : List Ck} : 6 ≤ d → Pk L (.shs x ty t ys) L' → ys[k]? = some (y, ty', t') → VwC L d y t'
 | shsO {d : Nat} {x t : AV} {ty : Nat} {ys : List (AV × Nat × AV)} {L' : List Ck} : 6 ≤ d → Pk L (.shs x ty t ys) L' → VwC L d x t
end
inductive VwL (L : List Ck) : Nat → List AV → List AV → Prop
 | nil {d : Nat} : VwL L d [] []
 | cons {d : Nat} {x t : AV} {xs ts : List AV} : VwC L d x t → VwL L d xs ts → VwL L d (x :: xs) (t :: ts)
 | agg {d : Nat} {cs ds xs ts : List AV} : VwL L d cs ds → VwL L (d + 1) xs ts → VwL L (d + 1) (.agg cs :: xs) (.agg ds :: ts)
 | aggF {d : Nat} {cs xs ts : List AV} : cs.all E6 = true → VwL L (d + 2) xs ts → VwL L (d + 2) (.agg cs :: xs) (.agg cs :: ts)
 | sl {d i k w : Nat} {cs ds xs ts : List AV} {a : Bool} {L' : List Ck} : Pk L (.blk i cs a) L' → cs.length = k * w → VwL L d cs ds → VwL L (d + 1) xs ts → VwL L (d + 1) (.sl i 0 k w :: xs) (.ro k ds :: ts)
 | slA {d i o k w : Nat} {cs ds xs ts : List AV} {a : Bool} {L' : List Ck} : Pk L (.blk i cs a) L' → o + k * w ≤ cs.length → VwL L d ((cs.drop o).take (k * w)) ds → VwL L (d + 1) xs ts → VwL L (d + 1) (.sl i o k w :: xs) (.ro k ds :: ts)
 | ptr {d i : Nat} {cs ds xs ts : List AV} {a : Bool} {L' : List Ck} : Pk L (.blk i cs a) L' → VwL L d cs ds → VwL L (d + 1) xs ts → VwL L (d + 1) (.ptr i 0 :: xs) (.rp ds :: ts)
 | fn {d f : Nat} {ps cs ps' cs' xs ts : List AV} : VwL L d ps ps' → VwL L d cs cs' → VwL L (d + 1) xs ts → VwL L (d + 1) (.fn f ps cs :: xs) (.fn f ps' cs' :: ts)
section
variable {β : Type} {n : Nat} {H : Ab} {L L' L1 L2 : List Ck} {G : Option β → Prop} {K : AV → Option β} {KH : KO β}
theorem VwC.sound (hs : Sep H L) {d : Nat} {x t : AV} (h : VwC L d x t) : B8 H d x = some t := by
 cases h with
 | sc => rfl
 | nl => rfl
 | ro => rfl
 | rp => rfl
 | own hd hp =>
  obtain ⟨_, h1, I, h2, _⟩ := hs.own hp
  exact Ls d _ _ _ I (Ib 6 d _ _ _ _ h2 (Av h1 hd))
 | shr hd hp =>
  obtain ⟨h1, I, h2⟩ := hs.seen hp
  exact Ls d _ _ _ I (Ib 6 d _ _ _ _ h2 (Av h1 hd))
 | shsE hd hp hk =>
  obtain ⟨h1, I, h2⟩ := hs.seenS hp hk
  exact Ls d _ _ _ I (Ib 6 d _ _ _ _ h2 (Av h1 hd))
 | shsO hd hp =>
  obtain ⟨_, h1, I, h2, _⟩ := (hs.ofShs hp).own .here
  exact Ls d _ _ _ I (Ib 6 d _ _ _ _ h2 (Av h1 hd))
theorem Hn {d : Nat} {x t : AV} {xs ts : List AV} (h : B8 H d x = some t) (hs : xs.mapM (B8 H d) = some ts) : (x :: xs).mapM (B8 H d) = some (t :: ts) := by
 simp only [List.mapM_cons, h, hs, Option.pure_def, Option.bind_eq_bind, Option.bind_some]
theorem VwL.sound (hs : Sep H L) : ∀ {d : Nat} {xs ts : List AV}, VwL L d xs ts → xs.mapM (B8 H d) = some ts
 | _, _, _, .nil => rfl
 | _, _, _, .cons h q => Hn (h.sound hs) (q.sound hs)
 | _, _, _, .agg h q => Hn (by rw [Ka, h.sound hs]; rfl) (q.sound hs)
 | _, _, _, .aggF h q => Hn (by rw [Ka, Qo h]; rfl) (q.sound hs)
 | _, _, _, .sl (i := i) (k := k) (w := w) (cs := cs) hp hl h q => Hn (by
   rw [O1]
   have hb := hs.blk hp
   have e : An H i 0 (k * w) = some cs := by
    simp only [An, hb, if_true, List.drop_zero, Nat.zero_add, ← hl, Nat.le_refl, List.take_length]
   rw [e, Option.bind_some, h.sound hs]
   rfl) (q.sound hs)
 | _, _, _, .slA (i := i) (o := o) (k := k) (w := w) (cs := cs) hp hl h q => Hn (by
   rw [O1]
   have hb := hs.blk hp
   have e : An H i o (k * w) = some ((cs.drop o).take (k * w)) := by
    simp only [An, hb, if_true, hl]
   rw [e, Option.bind_some, h.sound hs]
   rfl) (q.sound hs)
 | _, _, _, .ptr (i := i) (cs := cs) hp h q => Hn (by
   have hb := hs.blk hp
   show ((H[i]?).bind fun b => (An H i 0 (b.cells.length - 0)).bind fun cs => (cs.mapM (B8 H _)).bind fun vs => some (AV.rp vs)) = _
   rw [hb, Option.bind_some]
   have e : An H i 0 (cs.length - 0) = some cs := by
    simp only [An, hb, if_true, List.drop_zero, Nat.zero_add, Nat.sub_zero, Nat.le_refl, List.take_length]
   show (An H i 0 (cs.length - 0)).bind _ = _
   rw [e, Option.bind_some, h.sound hs]
   rfl) (q.sound hs)
 | _, _, _, .fn (d := d) (ps := ps) (cs := cs) h1 h2 q => Hn (by
   show ((ps.mapM (B8 H d)).bind fun us => (cs.mapM (B8 H d)).bind fun ws => some (AV.fn _ us ws)) = _
   rw [h1.sound hs, Option.bind_some, h2.sound hs]
   rfl) (q.sound hs)
theorem AaI {ty : Nat} {f : FuncId} {caps args vs : List AV} {t : AV} (hs : Sep H L) (hh : Cw f = false) (hv : VwL L 8 (args ++ caps) vs) (ht : Bt E0 n ty f vs = some t) (h : Gd G (KH (A2 Ag E0.tp H.length ty t).1 (H ++ (A2 Ag E0.tp H.length ty t).2))) : Gd G ((PR n β).call ty (.fn f [] caps) args H fun x H => KH x H) := Fc (Vn hh (hv.sound hs) ht) h
theorem Ey {ty : Nat} {f : FuncId} {args vs : List AV} {v : Value} (hs : Sep H L) (hh : Cw f = false) (hv : VwL L 8 args vs) (ht : Bt E0 n ty f vs = some (.sc v)) (h : Gd G (KH (.sc v) H)) : Gd G ((PR n β).call ty (.fn f [] []) args H fun x H => KH x H) := by
 refine AaI hs hh (by rw [List.append_nil]; exact hv) ht ?_
 rw [Dk, List.append_nil]
 exact h
theorem AeR {ty m : Nat} {cells : List AV} (hs : Sep H L) (hok : F7 Ag E0.tp 6 ty (.ro m cells)) : A4 (A2 Ag E0.tp H.length ty (.ro m cells)).1 = true ∧ Sep (H ++ (A2 Ag E0.tp H.length ty (.ro m cells)).2) (.own (A2 Ag E0.tp H.length ty (.ro m cells)).1 ty (.ro m cells) :: L) := by
 have hl : A4 (A2 Ag E0.tp H.length ty (.ro m cells)).1 = true := rfl
 refine ⟨hl, hs.new (J := List.range' H.length (A2 Ag E0.tp H.length ty (.ro m cells)).2.length) ⟨hl, hok, Iw 6 ty _ H.length hok (Js _ _)⟩ List.nodup_range' fun i hi => ?_⟩
 rw [List.mem_range'_1] at hi
 exact hi.1
def InsL (ts : List Nat) (cs : List AV) (Φ : List AV → List Ck → Prop) : Prop := ∀ (H : Ab) (L : List Ck), Sep H L → ∃ xs Lx, xs = (Aj Ag E0.tp H.length ts cs).1 ∧ Sep (H ++ (Aj Ag E0.tp H.length ts cs).2) (Lx ++ L) ∧ Φ xs Lx
theorem AaM {ts : List Nat} : InsL ts [] fun xs Lx => xs = [] ∧ Lx = [] := fun H L hs => ⟨[], [], rfl, by simpa [Aj] using hs, rfl, rfl⟩
theorem Fg {ts : List Nat} {v : Value} {cs : List AV} {Φ : List AV → List Ck → Prop} (h : InsL ts.tail cs Φ) : InsL ts (.sc v :: cs) fun xs Lx => ∃ ys, xs = .sc v :: ys ∧ Φ ys Lx := fun H L hs => by
 obtain ⟨ys, Ly, e1, e2, e3⟩ := h H L hs
 refine ⟨.sc v :: ys, Ly, ?_, ?_, ys, rfl, e3⟩
 ·simp only [Aj, Dk, List.length_nil, Nat.add_zero]
  rw [e1]
 ·simpa only [Aj, Dk, List.length_nil, Nat.add_zero, List.nil_append] using e2
theorem Lh {ts : List Nat} {m ty : Nat} {cells cs : List AV} {Φ : List AV → List Ck → Prop} (hty : ts.headD 0 = ty) (hok : F7 Ag E0.tp 6 ty (.ro m cells)) (h : InsL ts.tail cs Φ) : InsL ts (.ro m cells :: cs) fun xs Lx => ∃ x ys Ly, A4 x = true ∧ xs = x :: ys ∧ Lx = Ly ++ [.own x ty (.ro m cells)] ∧ Φ ys Ly := fun H L hs => by
 subst hty
 obtain ⟨h1, h2⟩ := AeR hs hok
 obtain ⟨ys, Ly, e1, e2, e3⟩ := h _ _ h2
 refine ⟨_ :: ys, Ly ++ [.own _ (ts.headD 0) (.ro m cells)], ?_, ?_, _, ys, Ly, h1, rfl, rfl, e3⟩
 ·simp only [Aj]
  rw [e1, List.length_append]
 ·simp only [Aj]
  rw [List.length_append, List.append_assoc] at e2
  rw [List.append_assoc]
  exact e2
theorem Hs {ty : Nat} {f : FuncId} {args vs cs : List AV} {cty : List Nat} {Φ : List AV → List Ck → Prop} (hs : Sep H L) (hh : Cw f = false) (hv : VwL L 8 args vs) (ht : Bt E0 n ty f vs = some (.agg cs)) (hty : ∃ i, Ag ty = some i ∧ i.cty = cty) (hi : InsL cty cs Φ) (h : ∀ xs Lx H', Φ xs Lx → Sep H' (Lx ++ L) → Gd G (KH (.agg xs) H')) : Gd G ((PR n β).call ty (.fn f [] []) args H fun x H => KH x H) := by
 refine AaI hs hh (by rw [List.append_nil]; exact hv) ht ?_
 obtain ⟨i, e1, rfl⟩ := hty
 obtain ⟨xs, Lx, a1, a2, a3⟩ := hi H L hs
 rw [Gg, e1, Option.getD_some, ← a1]
 exact h _ _ _ a3 a2
theorem AeA {ty : Nat} {f : FuncId} {caps args : List AV} (hh : E0.hm f = true) (he : E0.ext f = none) (h : Gd G (Cz E0 n β f (args ++ caps) H fun x H => KH x H)) : Gd G ((PR n β).call ty (.fn f [] caps) args H fun x H => KH x H) := by
 refine Fc ?_ h
 show I9 E0 (Cz E0 n) ty f ([] ++ args ++ caps) H _ = _
 simp only [I9, he, hh, List.nil_append, if_true]
theorem Qs {d ty m : Nat} {x : AV} {cells : List AV} {I : List Nat} {i j : TI} (h1 : Ag ty = some i) (h2 : Ag i.elem = some j) (h : Cc Ag E0.tp H (d + 1) ty x = some (.ro m cells, I)) :
  (x = .nl ∧ m = 0 ∧ cells = [] ∧ I = []) ∨ ∃ id off raw J b, x = .sl id off m j.size ∧ I = id :: J ∧ H[id]? = some b ∧ b.live = true ∧ b.app = true ∧ An H id off (m * j.size) = some raw ∧ Cq (Cc Ag E0.tp H d) (List.replicate m j.cty).flatten raw = some (cells, J) := by
 cases x with
 | sc v => simp [Cc] at h
 | nl =>
  have := (Option.some.inj h)
  simp only [Prod.mk.injEq, AV.ro.injEq] at this
  obtain ⟨⟨rfl, rfl⟩, rfl⟩ := this
  exact .inl ⟨rfl, rfl, rfl, rfl⟩
 | sl id off n z =>
  rw [Gi] at h
  simp only [h1, h2, Option.bind_some] at h
  split at h
  case isFalse => cases h
  rename_i hz
  split at h
  case isFalse => cases h
  rename_i ha
  simp only [Option.bind_eq_some_iff] at h
  obtain ⟨cs, h4, q, h5, h6⟩ := h
  simp only [Option.some.injEq, Prod.mk.injEq, AV.ro.injEq] at h6
  obtain ⟨⟨rfl, rfl⟩, rfl⟩ := h6
  subst hz
  obtain ⟨hl, b, hb, hlv, _, _⟩ := Ic h4
  have ha' : b.app = true := by simpa only [F6, hb] using ha
  exact .inr ⟨id, off, cs, q.2, b, rfl, rfl, hb, hlv, ha', h4, h5⟩
 | agg cs =>
  rw [Fu] at h
  simp only [Option.bind_eq_some_iff] at h
  obtain ⟨i, h1, q, h2, h3⟩ := h
  simp at h3
 | tup cs =>
  rw [Hd] at h
  simp only [Option.bind_eq_some_iff] at h
  obtain ⟨i, h1, q, h2, h3⟩ := h
  simp at h3
 | _ => simp [Cc] at h
theorem Pf {f : Nat → AV → Option (AV × List Nat)} : ∀ {ts : List Nat} {xs : List AV} {p : List AV × List Nat}, (∀ t x a I, f t x = some (a, I) → E6 a = true → A4 x = true) → Cq f ts xs = some p → p.1.all E6 = true → xs.all A4 = true
 | ts, [], p, _, h, _ => rfl
 | [], _ :: _, p, _, h, _ => by simp [Cq] at h
 | t :: ts, x :: xs, p, hf, h, hl => by
  obtain ⟨a, b, h1, h2, rfl⟩ := F1 h
  rw [List.all_cons, Bool.and_eq_true] at hl
  rw [List.all_cons, Bool.and_eq_true]
  exact ⟨hf t x a.1 a.2 h1 hl.1, Pf hf h2 hl.2⟩
theorem Ws {d ty : Nat} {x a : AV} {I : List Nat} (h : Cc Ag E0.tp H d ty x = some (a, I)) (hl : E6 a = true) : A4 x = true := by
 cases d with
 | zero => simp [Cc] at h
 | succ d =>
  cases x with
  | sc v =>
   obtain ⟨rfl, _⟩ : AV.sc v = a ∧ [] = I := by simpa [Cc] using h
   exact hl
  | nl => rfl
  | sl id off n z => rfl
  | agg cs =>
   rw [Fu] at h
   simp only [Option.bind_eq_some_iff] at h
   obtain ⟨i, h1, q, h2, h3⟩ := h
   obtain ⟨rfl, _⟩ : AV.agg q.1 = a ∧ q.2 = I := by simpa using h3
   cases hl
  | tup cs =>
   rw [Hd] at h
   simp only [Option.bind_eq_some_iff] at h
   obtain ⟨i, h1, q, h2, h3⟩ := h
   obtain ⟨rfl, _⟩ : AV.tup q.1 = a ∧ q.2 = I := by simpa using h3
   cases hl
  | _ => simp [Cc] at h
theorem Kv {G : Option AV → Prop} {o : Option AV} (h : Gd G o) : G o := h
theorem Dm {ty : Nat} {tys : List Nat} {raw cells : List AV} (hs : Sep H L) (hts : E0.tp ty = some tys) (hr : OwnR L raw tys cells L') (hok : Ed (F7 Ag E0.tp 7) tys cells) : Aw Ag E0.tp ty H (.tup raw) = some (.tup cells) := by
 obtain ⟨I, h1, h2⟩ := hs
 obtain ⟨J, R, g1, g2, g3⟩ := hr.sound h1 7 hok
 have hn := (List.nodup_append.1 (g3.nodup_iff.1 h2)).1
 rw [Aw, Hd, hts, Option.bind_some, g1, Option.bind_some, Option.bind_some, if_pos hn]
theorem Qt {ty : Nat} {cty : List Nat} {raw cells : List AV} (hs : Sep H L) (hty : ∃ i, Ag ty = some i ∧ i.cty = cty) (hr : OwnR L raw cty cells L') (hok : Ed (F7 Ag E0.tp 7) cty cells) : Aw Ag E0.tp ty H (.agg raw) = some (.agg cells) := by
 obtain ⟨i, e1, rfl⟩ := hty
 obtain ⟨I, h1, h2⟩ := hs
 obtain ⟨J, R, g1, g2, g3⟩ := hr.sound h1 7 hok
 have hn := (List.nodup_append.1 (g3.nodup_iff.1 h2)).1
 rw [Aw, Fu, e1, Option.bind_some, g1, Option.bind_some, Option.bind_some, if_pos hn]
theorem Ec {G : Option AV → Prop} {ty : Nat} {x t : AV} (e : Aw Ag E0.tp ty H x = some t) (h : G (some t)) : Gd G (Aw Ag E0.tp ty H x) := by
 rw [e]
 exact h
end
end
section
open Go
variable {β : Type}
theorem Em {d ty : Nat} {cty : List Nat} {cs : List AV} (hty : ∃ i, Ag ty = some i ∧ i.cty = cty) (h : Ed (F7 Ag E0.tp d) cty cs) : F7 Ag E0.tp (d + 1) ty (.agg cs) := by
 obtain ⟨i, hi, rfl⟩ := hty
 exact ⟨i, hi, h⟩
theorem Bq {d ty : Nat} (h : ∃ i j, Ag ty = some i ∧ Ag i.elem = some j) : F7 Ag E0.tp (d + 1) ty (.ro 0 []) := by
 obtain ⟨i, j, h1, h2⟩ := h
 exact ⟨i, j, h1, h2, by simp, by simp [Ed]⟩
theorem Gd.both {G : Option β → Prop} {a b : Option β} (h1 : Gd G a) (h2 : a = b) : Gd G (Mq a b) := by
 rw [Oo rfl h2.symm]
 exact h1
theorem Hm (s : ByteArray) : F7 Ag E0.tp 6 31 (As s) := J7 (d := 4) Id s
theorem Uz (l : List Int) : F7 Ag E0.tp 6 34 (Fs l) := Ln (d := 4) (fun z : Int => .int .i64 z) Af7 l
theorem U1 (l : List ByteArray) : F7 Ag E0.tp 6 33 (Fv l) := Ln (d := 4) (fun z : ByteArray => .string z) T6 l
theorem Eb (l : List Ej) : F7 Ag E0.tp 6 28 (At A1 l) := Ht (d := 5) F4 ⟨_, _, rfl, rfl, rfl, rfl⟩ (Kp 3) l
theorem Cd (l : List Af) : F7 Ag E0.tp 6 27 (At Ap l) := Ht (d := 5) Bf ⟨_, _, rfl, rfl, rfl, rfl⟩ (J6 3) l
theorem Ia (l : List H0) : F7 Ag E0.tp 6 32 (At B0 l) := Ht (d := 5) Kn ⟨_, _, rfl, rfl, rfl, rfl⟩ (AaS 4) l
theorem InsL.mono {ts : List Nat} {cs : List AV} {Φ Ψ : List AV → List Ck → Prop} (h : InsL ts cs Φ) (m : ∀ xs Lx, Φ xs Lx → Ψ xs Lx) : InsL ts cs Ψ := fun H L hs => by
 obtain ⟨xs, Lx, a, b, c⟩ := h H L hs
 exact ⟨xs, Lx, a, b, m _ _ c⟩
theorem AeO (p : Ci) : InsL Mx (Ar p) fun xs Lx => ∃ x1 x2 : AV, A4 x1 = true ∧ A4 x2 = true ∧ xs = [.sc (.int .i64 p.fLast), x1, x2] ∧ Lx = [.own x2 28 (At A1 p.fQ), .own x1 27 (At Ap p.fFl)] :=
 InsL.mono (Fg (Lh (ty := 27) rfl (Cd p.fFl) (Lh (ty := 28) rfl (Eb p.fQ) AaM))) (by
  rintro _ _ ⟨_, rfl, ⟨x1, _, _, l1, rfl, rfl, ⟨x2, _, _, l2, rfl, rfl, ⟨rfl, rfl⟩⟩⟩⟩
  exact ⟨x1, x2, l1, l2, rfl, rfl⟩)
theorem G0 (p : Ay) : InsL Jx (Aq p) fun xs Lx => ∃ x6 x13 x19 x22 x23 x24 : AV, A4 x6 = true ∧ A4 x13 = true ∧ A4 x19 = true ∧ A4 x22 = true ∧ A4 x23 = true ∧ A4 x24 = true ∧ xs = [.sc (.int .i64 p.fType), .sc (.bool p.fDup), .sc (.int .i64 p.fQos), .sc (.bool p.fRetain), .sc (.int .i64 p.fId), .sc (.string p.fTopic), x6, .sc (.string p.fClient), .sc (.int .i64 p.fLevel), .sc (.bool p.fClean), .sc (.int .i64 p.fKeep), .sc (.bool p.fHasWill), .sc (.string p.fWTopic), x13, .sc (.int .i64 p.fWQos), .sc (.bool p.fWRetain), .sc (.bool p.fHasUser), .sc (.string p.fUser), .sc (.bool p.fHasPass), x19, .sc (.int .i64 p.fCode), .sc (.bool p.fPresent), x22, x23, x24] ∧ Lx = [.own x24 34 (Fs p.fCodes), .own x23 33 (Fv p.fNames), .own x22 32 (At B0 p.fWants), .own x19 31 (As p.fPass), .own x13 31 (As p.fWBody), .own x6 31 (As p.fBody)] :=
 InsL.mono (Fg (Fg (Fg (Fg (Fg (Fg (Lh (ty := 31) rfl (Hm p.fBody) (Fg (Fg (Fg (Fg (Fg (Fg (Lh (ty := 31) rfl (Hm p.fWBody) (Fg (Fg (Fg (Fg (Fg (Lh (ty := 31) rfl (Hm p.fPass) (Fg (Fg (Lh (ty := 32) rfl (Ia p.fWants) (Lh (ty := 33) rfl (U1 p.fNames) (Lh (ty := 34) rfl (Uz p.fCodes) AaM))))))))))))))))))))))))) (by
  rintro _ _ ⟨_, rfl, ⟨_, rfl, ⟨_, rfl, ⟨_, rfl, ⟨_, rfl, ⟨_, rfl, ⟨x6, _, _, l6, rfl, rfl, ⟨_, rfl, ⟨_, rfl, ⟨_, rfl, ⟨_, rfl, ⟨_, rfl, ⟨_, rfl, ⟨x13, _, _, l13, rfl, rfl, ⟨_, rfl, ⟨_, rfl, ⟨_, rfl, ⟨_, rfl, ⟨_, rfl, ⟨x19, _, _, l19, rfl, rfl, ⟨_, rfl, ⟨_, rfl, ⟨x22, _, _, l22, rfl, rfl, ⟨x23, _, _, l23, rfl, rfl, ⟨x24, _, _, l24, rfl, rfl, ⟨rfl, rfl⟩⟩⟩⟩⟩⟩⟩⟩⟩⟩⟩⟩⟩⟩⟩⟩⟩⟩⟩⟩⟩⟩⟩⟩⟩⟩
  exact ⟨x6, x13, x19, x22, x23, x24, l6, l13, l19, l22, l23, l24, rfl, rfl⟩)
end
section
open Go
inductive Sel : List Ck → List Ck → Prop
 | nil {L : List Ck} : Sel L []
 | cons {L L1 L' : List Ck} {c : Ck} : Pk L c L1 → Sel L1 L' → Sel L (c :: L')
 | rest {L : List Ck} : Sel L L
 | skip {L L' : List Ck} {c : Ck} : Sel L L' → Sel (c :: L) L'
section
variable {β : Type} {n : Nat} {H : Ab} {L L' L1 L2 : List Ck} {G : Option β → Prop} {K : AV → Option β} {KH : KO β}
theorem Sep.none (h : Sep H L) : Sep H [] := by
 induction L with
 | nil => exact h
 | cons c L ih => exact ih h.tail
theorem Sel.sepI : ∀ {L L' : List Ck} {I : List Nat}, Sel L L' → SepI H L I → ∃ J X, SepI H L' J ∧ I.Perm (J ++ X)
 | _, _, I, .nil, h => ⟨[], I, rfl, List.Perm.refl _⟩
 | _, _, I, .rest, h => ⟨I, [], h, by simp⟩
 | _, _, I, .skip q, h => by
  obtain ⟨J, R, rfl, g1, g2⟩ := h
  obtain ⟨J', X, e1, e2⟩ := q.sepI g2
  refine ⟨J', J ++ X, e1, ?_⟩
  refine (List.Perm.append_left J e2).trans ?_
  rw [← List.append_assoc, ← List.append_assoc]
  exact List.Perm.append_right X List.perm_append_comm
 | _, _, I, .cons p q, h => by
  obtain ⟨J, R, g1, g2, g3⟩ := p.sepI h
  obtain ⟨J', X, e1, e2⟩ := q.sepI g2
  refine ⟨J ++ J', X, ⟨J, J', rfl, g1, e1⟩, ?_⟩
  rw [List.append_assoc]
  exact g3.trans (List.Perm.append_left J e2)
theorem Sep.sel (h : Sep H L) (q : Sel L L') : Sep H L' := by
 obtain ⟨I, h1, h2⟩ := h
 obtain ⟨J, X, g1, g2⟩ := q.sepI h1
 exact ⟨J, g1, (List.nodup_append.1 (g2.nodup_iff.1 h2)).1⟩
theorem Ew {x off : Nat} {ts : List AV} {cs : List AV} {a : Bool} {m : Option β} (hs : Sep H L) (hp : Pk L (.blk x cs a) L1) (ht : ∀ y ∈ ts, ∃ j o ds b, y = .ptr j o ∧ ∃ L2, Pk L1 (.blk j ds b) L2) (h : Gd G m) : Gd G (Pg (.ptr x off) ts H m) := by
 have e : Qy (.ptr x off) ts H = true := by
  have hb := hs.blk hp
  simp only [Qy, hb, Bool.true_and, List.all_eq_true]
  intro y hy
  obtain ⟨j, o, ds, b, rfl, L2, hq⟩ := ht y hy
  obtain ⟨I, ⟨J, R, rfl, ⟨rfl, h1⟩, h2⟩, h3⟩ := hs.pick hp
  obtain ⟨J', R', ⟨rfl, g1⟩, g2, g3⟩ := hq.sepI h2
  have hne : x ≠ j := by
   rintro rfl
   have hn := (List.nodup_cons.1 h3).1
   exact hn (g3.symm.mem_iff.1 (by simp))
  simp [g1, hne]
 unfold Pg
 rw [if_pos e]
 exact h
theorem Gd.bothE {r a b : Option β} (h1 : Gd (· = r) a) (h2 : Gd (· = r) b) : Gd (· = r) (Mq a b) := Oo h1 h2
theorem F3 {x o o' : Nat} {m : Option β} (h : Gd G m) : Gd G (P6 (.ptr x o) (.ptr x o') m) := by
 simp only [P6, if_true]
 exact h
theorem AeB {α : Type} {w : Nat} {enc : α → List AV} {l pre t : List α} {x : α} {i : Int} (hi : i = (pre.length : Nat)) (hw : ∀ x, (enc x).length = w) (h0 : 0 < w) (hl : l = pre ++ x :: t) (h : Gd G (K (.rp (enc x ++ (t.map enc).flatten)))) : Gd G (Cg w (At enc l) (.sc (.int .i64 i)) fun t => K t) := by
 subst hl
 subst hi
 exact Fc (La hw h0 pre x t _) h
theorem Ahc {α : Type} {w : Nat} {enc : α → List AV} {l : List α} {i : Int} (hw : ∀ x, (enc x).length = w) (h0 : 0 < w) (hi : 0 ≤ i) (hl : i < (l.length : Nat)) (h : ∀ x rest, l[i.toNat]? = some x → Gd G (K (.rp (enc x ++ rest)))) : Gd G (Cg w (At enc l) (.sc (.int .i64 i)) fun t => K t) := by
 have hlt : i.toNat < l.length := by omega
 refine AeB (pre := l.take i.toNat) (x := l[i.toNat]) (t := l.drop (i.toNat + 1)) (by simp; omega) hw h0 ?_ (h _ _ (List.getElem?_eq_getElem hlt))
 rw [← List.drop_eq_getElem_cons hlt, List.take_append_drop]
end
end
end Go.Proofs.YtjiahcekpohehaaGreatDoor.Abs
