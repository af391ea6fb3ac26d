/- The law FnExactOutNext and its row: every input, no condition (written by laws.py). -/
import Derived.Test.YtdameggfgnpehaaGreatDoorMd
import Derived.Test.YtdameggfgnpehaaGreatDoorRows
import Derived.Test.YtdameggfgnpehaaGreatDoorTie
import Derived.Test.YtdameggfgnpehaaGreatDoorCards
import Derived.Lib.LaidIn
import Derived.Lib.LaidU8T
import Derived.PinnedBridge
import Derived.SevenTiedAt
import Derived.Deep.DeepHandedRow
import Derived.Deep.DeepWitnessRowRef
import Derived.WalkKit
import Derived.ProofKit
import Derived.OpenShut
import Derived.ShutString
import Derived.ChangeOld
import Derived.Below
import Derived.SizedLaws
set_option linter.unusedVariables false
set_option linter.unusedSimpArgs false
set_option maxRecDepth 100000
namespace Go.Proofs.YtdameggfgnpehaaGreatDoor.Abs
open Go
variable {β : Type} {n : Nat} {r : Option β}
def inR (t lo hi : Int) : Bool := decide (lo ≤ t) && decide (t ≤ hi)
theorem withinN (n ty : Nat) (t lo hi : Int) : tree E0 (n + 1) ty 128 [.sc (.int .i64 t), .sc (.int .i64 lo), .sc (.int .i64 hi)] = some (.sc (.bool (inR t lo hi))) := by
 rw [tree_def, f128_eq, f128]
 simp only [PR_bin, PR_guard, PR_pick]
 refine w_bin (v := .sc (.bool (decide (lo ≤ t)))) (fun k => rfl) ?_
 cases h : decide (lo ≤ t)
 ·refine w_gF rfl ?_
  refine w_gF rfl ?_
  refine w_gF rfl ?_
  refine w_pF rfl ?_
  exact w_endB (by rw [inR, h]; rfl)
 ·refine w_gT rfl ?_
  refine w_gT rfl ?_
  refine w_gT rfl ?_
  rw [leq64]
  refine w_pT rfl ?_
  exact w_endB (by rw [inR, h]; rfl)
theorem isWordN (n ty : Nat) (t : Int) : tree E0 (n + 2) ty 139 [.sc (.int .i64 t)] = some (.sc (.bool (inR t 0 65535))) := by
 rw [tree_def, f139_eq, f139]
 refine lw_sc rfl (vcons (Vw_sc _ _) (vcons (Vw_sc _ _) (vcons (Vw_sc _ _) vnil))) (withinN n _ t 0 65535) ?_
 rfl
theorem isIdN (n ty : Nat) (t : Int) : tree E0 (n + 2) ty 137 [.sc (.int .i64 t)] = some (.sc (.bool (inR t 1 65535))) := by
 rw [tree_def, f137_eq, f137]
 refine lw_sc rfl (vcons (Vw_sc _ _) (vcons (Vw_sc _ _) (vcons (Vw_sc _ _) vnil))) (withinN n _ t 1 65535) ?_
 rfl
def tkV (u : List Int) (j : Nat) : AV := .sc (.bool (u.any fun z => z == (j : Int) && inR z 1 65535))
def tkC (W : Nat) (u : List Int) : List AV := (List.range W).map (tkV u)
theorem tkC_len (W : Nat) (u : List Int) : (tkC W u).length = W := by simp [tkC]
theorem tkC_get (W : Nat) (u : List Int) (j : Nat) (h : j < W) : (tkC W u)[j]? = some (tkV u j) := by
 rw [tkC, List.getElem?_map, List.getElem?_range h]
 rfl
theorem rep_tk : ∀ n : Nat, (List.replicate n [AV.sc (.bool false)]).flatten = tkC n []
 | 0 => rfl
 | n + 1 => by
  rw [List.replicate_succ', List.flatten_append, rep_tk n]
  show tkC n [] ++ [AV.sc (.bool false)] = _
  rw [tkC, tkC, List.range_succ, List.map_append]
  rfl
theorem splice_one {l : List AV} {i : Nat} {x : AV} (h : i < l.length) : splice l (0 + i * 1) [x] = l.set i x := by
 unfold splice
 rw [List.set_eq_take_append_cons_drop, if_pos h, Nat.zero_add, Nat.mul_one]
 simp
theorem tk_set (W : Nat) (u : List Int) (i : Nat) (h : i < W) (hi : inR (i : Int) 1 65535 = true) : splice (tkC W u) (0 + i * 1) [.sc (.bool true)] = tkC W (u ++ [(i : Int)]) := by
 rw [splice_one (by rw [tkC_len]; exact h)]
 apply List.ext_getElem?
 intro j
 by_cases hj : j < W
 ·rw [tkC_get _ _ _ hj]
  by_cases e : i = j
  ·subst e
   rw [List.getElem?_set_self (by rw [tkC_len]; exact h), tkV, List.any_append]
   simp [hi]
  ·rw [List.getElem?_set_ne e, tkC_get _ _ _ hj, tkV, tkV, List.any_append]
   have : ((i : Int) == (j : Int)) = false := by
    rw [beq_eq_false_iff_ne]
    omega
   simp [this]
 ·rw [List.getElem?_eq_none (by rw [List.length_set, tkC_len]; omega), List.getElem?_eq_none (by rw [tkC_len]; omega)]
theorem tk_skip (W : Nat) (u : List Int) (z : Int) (h : inR z 1 65535 = false) : tkC W (u ++ [z]) = tkC W u := by
 unfold tkC
 congr 1
 funext j
 rw [tkV, tkV, List.any_append]
 simp [h]
theorem tk_nx (u : List Int) (x : Int) (h0 : 0 ≤ x) : tkV u (nx x).toNat = .sc (.bool (u.contains (nx x))) := by
 have h1 : 1 ≤ nx x ∧ nx x ≤ 65535 := by unfold nx; omega
 rw [tkV]
 congr 2
 rw [show (((nx x).toNat : Nat) : Int) = nx x by omega]
 induction u with
 | nil => rfl
 | cons z u ih =>
  rw [List.any_cons, ih, List.contains_cons]
  congr 1
  cases e : (z == nx x)
  ·rw [Bool.false_and]
   symm
   rw [beq_eq_false_iff_ne] at e ⊢
   exact fun h => e h.symm
  ·have e' : z = nx x := by simpa using e
   subst e'
   rw [inR, decide_eq_true h1.1, decide_eq_true h1.2]
   simp
theorem make_tk (W : Nat) (hW : W = 65536) (H : Heap) (k : AV → Heap → Option β) : pMake 1 1 [.sc (.bool false)] (.sc (.int .i64 65536)) (.sc (.int .i64 65536)) H k = k (.sl H.length 0 W 1) (H ++ [⟨tkC W [], true, true⟩]) := by
 subst hW
 show (if (65536 : Int) = 65536 then (if (0 : Int) ≤ 65536 then (if (65536 : Int).toNat * 1 ≤ 140737488355328 then pNewSl (65536 : Int).toNat 1 ((List.replicate (65536 : Int).toNat [AV.sc (.bool false)]).flatten) true H k else none) else none) else none) = _
 rw [if_pos rfl, if_pos (by decide), if_pos (by decide), rep_tk]
 rfl
theorem next_l1 (W : Nat) (hW : W = 65536) (u : List Int) (b : Nat) (H : Heap) (hb : H[b]? = some ⟨tkC W u, true, true⟩) (K : AV → Heap → Option β) : ∀ (k m : Nat) (x : Int) (c : Nat), c + k = 65535 → k < m → 0 ≤ x → x ≤ 65535 →
  f111_l1 (PR n β) n K m (.sl b 0 W 1) (.sc (.int .i64 x)) (.sc (.int .i64 c)) H = K (.tup [.sc (.int .i64 (seek u k x).1), .sc (.bool (seek u k x).2)]) H
 | 0, m + 1, x, c, hc, hm, h0, h1 => by
  rw [f111_l1]
  simp only [PR_bin, PR_cond]
  refine w_bin (v := .sc (.bool (decide ((c : Int) < 65535)))) (fun k => rfl) ?_
  refine w_cF (by simp; omega) ?_
  rfl
 | k + 1, m + 1, x, c, hc, hm, h0, h1 => by
  have hx : 1 ≤ nx x ∧ nx x ≤ 65535 := by unfold nx; omega
  have ih := next_l1 W hW u b H hb K k m (nx x) (c + 1) (by omega) (by omega) (by omega) (by omega)
  rw [f111_l1]
  simp only [PR_bin, PR_cond, PR_iadr, PR_load, PR_un]
  refine w_bin (v := .sc (.bool (decide ((c : Int) < 65535)))) (fun k => rfl) ?_
  refine w_cT (by simp; omega) ?_
  refine w_bin (v := .sc (.int .i64 (x + 1))) (fun k => by rw [add64, wrap64 _ (by omega) (by omega)]) ?_
  refine w_bin (v := .sc (.bool (decide (x + 1 > 65535)))) (fun k => rfl) ?_
  have body : ∀ y : Int, y = nx x → (pIadr 1 (.sl b 0 W 1) (.sc (.int .i64 y)) fun t35 => pLoad false 1 t35 H fun t36 => pUn .not t36 fun t37 => pCond t37 (K (packA [.sc (.int .i64 y), .sc (.bool true)]) H) (pBin .add (.sc (.int .i64 c)) (.sc (.int .i64 1)) fun t39 => f111_l1 (PR n β) n K m (.sl b 0 W 1) (.sc (.int .i64 y)) t39 H)) = K (.tup [.sc (.int .i64 (seek u (k + 1) x).1), .sc (.bool (seek u (k + 1) x).2)]) H := by
   intro y hy
   subst hy
   have hi : (nx x).toNat < W := by omega
   have e : (.sc (.int .i64 (nx x)) : AV) = .sc (.int .i64 (((nx x).toNat : Nat) : Int)) := by rw [show (((nx x).toNat : Nat) : Int) = nx x by omega]
   have hld : ∀ K2 : AV → Option β, (pIadr 1 (.sl b 0 W 1) (.sc (.int .i64 (nx x))) fun t35 => pLoad false 1 t35 H K2) = K2 (.sc (.bool (u.contains (nx x)))) := by
    intro K2
    rw [e, iadr_sl 1 W b 0 (nx x).toNat _ hi]
    refine w_ld (c := .sc (.bool (u.contains (nx x)))) hb (by rw [tkC_len]; omega) ?_ rfl
    rw [Nat.zero_add, Nat.mul_one]
    refine one_of ?_
    rw [tkC_get _ _ _ hi, tk_nx u x h0]
   rw [hld]
   refine w_not ?_
   rw [seek]
   cases hu : u.contains (nx x)
   ·refine w_cT rfl ?_
    rfl
   ·refine w_cF rfl ?_
    rw [inc_nat _ _ (by omega)]
    exact ih
  refine w_letJ ?_
  by_cases hg : x + 1 > 65535
  ·refine w_cT (by simpa using hg) ?_
   exact body 1 (by unfold nx; omega)
  ·refine w_cF (by simpa using hg) ?_
   exact body (x + 1) (by unfold nx; omega)
theorem next_l0 (hn : 1048576 < n) (W : Nat) (hW : W = 65536) (u : List Int) (hu : u.length ≤ 1048576) (x : Int) (h0 : 0 ≤ x) (h1 : x ≤ 65535) (b : Nat) (K : AV → Heap → Option β) (RES : Option β) (hK : ∀ H, K (.tup [.sc (.int .i64 (seek u 65535 x).1), .sc (.bool (seek u 65535 x).2)]) H = RES) : ∀ (t pre : List Int) (m : Nat) (H : Heap), u = pre ++ t → t.length < m → H[b]? = some ⟨tkC W pre, true, true⟩ →
  f111_l0 (PR (n + 2) β) (n + 2) K m (.sc (.int .i64 x)) (.sl b 0 W 1) (intsC u) (.sc (.int .i64 u.length)) (.sc (.int .i64 pre.length)) H = RES
 | [], pre, m + 1, H, he, hm, hb => by
  rw [List.append_nil] at he
  rw [f111_l0]
  simp only [PR_bin, PR_cond]
  rw [lss_nat, cond_b, if_neg (by rw [he]; simp)]
  rw [← he] at hb
  rw [show (.sc (.int .i64 0) : AV) = .sc (.int .i64 ((0 : Nat) : Int)) from rfl, next_l1 (n := n + 2) W hW u b H hb K 65535 (n + 2) x 0 (by omega) (by omega) h0 h1]
  exact hK H
 | z :: t, pre, m + 1, H, he, hm, hb => by
  have hlt : pre.length < u.length := by rw [he]; simp
  rw [f111_l0]
  simp only [PR_bin, PR_cond, PR_iadr, PR_load, PR_store]
  rw [lss_nat, cond_b, if_pos (by simpa using hlt)]
  have hel : ∀ K2 : AV → Option β, (pIadr 1 (intsC u) (.sc (.int .i64 pre.length)) fun t18 => pLoad false 1 t18 H K2) = K2 (.sc (.int .i64 z)) := by
   intro K2
   rw [ints_rows, he, el_ro (β := β) (enc := encI) (fun _ => rfl) (by decide) pre z t]
   exact ldI z _ H K2
  rw [hel]
  refine lw_sc rfl (vcons (Vw_sc _ _) vnil) (isIdN n _ z) ?_
  cases hz : inR z 1 65535
  ·refine w_cF rfl ?_
   rw [inc_nat _ _ (by omega)]
   have ih := next_l0 hn W hW u hu x h0 h1 b K RES hK t (pre ++ [z]) m H (by rw [he]; simp) (by simpa using hm) (by rw [tk_skip W pre z hz]; exact hb)
   rw [List.length_append, List.length_singleton] at ih
   exact ih
  ·refine w_cT rfl ?_
   have hz2 : 1 ≤ z ∧ z ≤ 65535 := by
    rw [inR, Bool.and_eq_true, decide_eq_true_eq, decide_eq_true_eq] at hz
    exact hz
   have ez : z = ((z.toNat : Nat) : Int) := by omega
   have hbl : b < H.length := (List.getElem?_eq_some_iff.1 hb).1
   rw [show (.sc (.int .i64 z) : AV) = .sc (.int .i64 ((z.toNat : Nat) : Int)) by rw [← ez], iadr_sl 1 W b 0 z.toNat _ (by omega)]
   rw [st_at 1 b (0 + z.toNat * 1) _ _ [.sc (.bool true)] _ _ hb rfl rfl (by show _ ≤ (tkC W pre).length; rw [tkC_len]; omega) rfl]
   have hs := tk_set W pre z.toNat (by omega) (by rw [← ez]; exact hz)
   rw [inc_nat _ _ (by omega)]
   have ih := next_l0 hn W hW u hu x h0 h1 b K RES hK t (pre ++ [z]) m (H.set b ⟨splice (tkC W pre) (0 + z.toNat * 1) [.sc (.bool true)], true, true⟩) (by rw [he]; simp) (by simpa using hm) (by rw [List.getElem?_set_self hbl, hs, ← ez])
   rw [List.length_append, List.length_singleton] at ih
   exact ih
theorem tup_sc {ty : Nat} {H : Heap} {t0 t1 : Nat} {a b : Value} (hts : E0.tp ty = some [t0, t1]) : ownTree ti0 E0.tp ty H (.tup [.sc a, .sc b]) = some (.tup [.sc a, .sc b]) := by
 rw [ownTree, ownT_tup, hts, Option.bind_some]
 rfl
theorem implNextF (n : Nat) (hn : 1048576 < n) (ty : Nat) (hty : ∃ t0 t1, E0.tp ty = some [t0, t1]) (x : Int) (u : List Int) (hu : u.length ≤ 1048576) : tree E0 (n + 3) ty 111 [.sc (.int .i64 x), intsC u] = some (.tup [.sc (.int .i64 (vNext x u).1), .sc (.bool (vNext x u).2)]) := by
 obtain ⟨t0, t1, hts⟩ := hty
 rw [tree_def, f111_eq, f111]
 simp only [PR_un, PR_cond, PR_make, PR_len]
 refine lw_sc rfl (vcons (Vw_sc _ _) vnil) (isWordN n _ x) ?_
 refine w_not ?_
 cases hx : inR x 0 65535
 ·refine w_cT rfl ?_
  have hn : ¬(0 ≤ x ∧ x ≤ 65535) := by
   intro h
   rw [inR, decide_eq_true h.1, decide_eq_true h.2] at hx
   cases hx
  rw [vNext, if_neg hn]
  exact tup_sc hts
 ·refine w_cF rfl ?_
  rw [inR, Bool.and_eq_true, decide_eq_true_eq, decide_eq_true_eq] at hx
  rw [vNext, if_pos hx]
  obtain ⟨W, hW⟩ : ∃ W : Nat, W = 65536 := ⟨_, rfl⟩
  rw [make_tk W hW]
  refine w_len ?_
  exact next_l0 (n := n) (by omega) W hW u hu x hx.1 hx.2 0 _ _ (fun H => tup_sc hts) u [] (n + 2) _ rfl (by omega) rfl
end Go.Proofs.YtdameggfgnpehaaGreatDoor.Abs
set_option linter.unusedVariables false
set_option linter.unusedSimpArgs false
namespace Go.Proofs.YtdameggfgnpehaaGreatDoor.Abs
open Go
section
variable {ti : Nat → Option TI} {tp : Nat → Option (List Nat)} {H : Heap}
theorem ownL_dep {d d' : Nat} (hd : ∀ ty x t I, ownT ti tp H d ty x = some (t, I) → okW ti tp d' ty t → ownT ti tp H d' ty x = some (t, I)) : ∀ (ts : List Nat) (xs cells : List AV) (I : List Nat), ownL (ownT ti tp H d) ts xs = some (cells, I) → okLW (okW ti tp d') ts cells → ownL (ownT ti tp H d') ts xs = some (cells, I)
 | ts, [], cells, I, h, _ => by
  obtain ⟨rfl, e⟩ := ownL_nil h
  cases e
  rfl
 | [], _ :: _, _, _, h, _ => by simp [ownL] at h
 | t :: ts, x :: xs, cells, I, h, ho => by
  obtain ⟨a, b, h1, h2, e⟩ := ownL_cons h
  cases e
  have e1 := hd t x a.1 a.2 h1 ho.1
  have e2 := ownL_dep hd ts xs b.1 b.2 h2 ho.2
  rw [ownL, e1, Option.bind_some, e2]
  rfl
theorem own_dep : ∀ (d d' ty : Nat) (x t : AV) (I : List Nat), ownT ti tp H d ty x = some (t, I) → okW ti tp d' ty t → ownT ti tp H d' ty x = some (t, I)
 | 0, _, _, _, _, _, h, _ => by simp [ownT] at h
 | d + 1, 0, _, _, _, _, _, ho => by cases ho
 | d + 1, d' + 1, ty, x, t, I, h, ho => by
  cases x with
  | sc v =>
   obtain ⟨rfl, rfl⟩ : AV.sc v = t ∧ [] = I := by simpa [ownT] using h
   rfl
  | nl =>
   obtain ⟨rfl, rfl⟩ : AV.ro 0 [] = t ∧ [] = I := by simpa [ownT] using h
   rfl
  | sl id off n z =>
   rw [ownT_sl] at h ⊢
   simp only [Option.bind_eq_some_iff] at h
   obtain ⟨i, h1, j, h2, h3⟩ := h
   split at h3
   case isFalse => cases h3
   rename_i hz
   split at h3
   case isFalse => cases h3
   rename_i ha
   simp only [Option.bind_eq_some_iff] at h3
   obtain ⟨cs, h4, q, h5, h6⟩ := h3
   obtain ⟨rfl, rfl⟩ : AV.ro n q.1 = t ∧ id :: q.2 = I := by simpa using h6
   obtain ⟨i', j', g1, g2, g3, g4⟩ := ho
   rw [h1] at g1
   cases g1
   rw [h2] at g2
   cases g2
   have e3 := ownL_dep (fun ty x t I h ho => own_dep d d' ty x t I h ho) _ _ _ _ h5 g4
   rw [hz] at h4
   simp only [h1, h2, Option.bind_some, hz, if_true, ha, h4, e3]
  | agg cs =>
   rw [ownT_agg] at h ⊢
   simp only [Option.bind_eq_some_iff] at h
   obtain ⟨i, h1, q, h2, h3⟩ := h
   obtain ⟨rfl, rfl⟩ : AV.agg q.1 = t ∧ q.2 = I := by simpa using h3
   obtain ⟨i', g1, g2⟩ := ho
   rw [h1] at g1
   cases g1
   have e3 := ownL_dep (fun ty x t I h ho => own_dep d d' ty x t I h ho) _ _ _ _ h2 g2
   rw [h1, Option.bind_some, e3]
   rfl
  | tup cs =>
   rw [ownT_tup] at h ⊢
   simp only [Option.bind_eq_some_iff] at h
   obtain ⟨i, h1, q, h2, h3⟩ := h
   obtain ⟨rfl, rfl⟩ : AV.tup q.1 = t ∧ q.2 = I := by simpa using h3
   obtain ⟨i', g1, g2⟩ := ho
   rw [h1] at g1
   cases g1
   have e3 := ownL_dep (fun ty x t I h ho => own_dep d d' ty x t I h ho) _ _ _ _ h2 g2
   rw [h1, Option.bind_some, e3]
   rfl
  | _ => simp [ownT] at h
theorem ownL_view {d : Nat} (hd : ∀ ty x t I, ownT ti tp H d ty x = some (t, I) → viewV H d x = some t) : ∀ (ts : List Nat) (xs cells : List AV) (I : List Nat), ownL (ownT ti tp H d) ts xs = some (cells, I) → xs.mapM (viewV H d) = some cells
 | ts, [], cells, I, h => by
  obtain ⟨rfl, e⟩ := ownL_nil h
  cases e
  rfl
 | [], _ :: _, _, _, h => by simp [ownL] at h
 | t :: ts, x :: xs, cells, I, h => by
  obtain ⟨a, b, h1, h2, e⟩ := ownL_cons h
  cases e
  simp only [List.mapM_cons, hd t x a.1 a.2 h1, ownL_view hd ts xs b.1 b.2 h2, Option.pure_def, Option.bind_eq_bind, Option.bind_some]
theorem own_view : ∀ (d ty : Nat) (x t : AV) (I : List Nat), ownT ti tp H d ty x = some (t, I) → viewV H d x = some t
 | 0, _, _, _, _, h => by simp [ownT] at h
 | d + 1, ty, x, t, I, h => by
  have ih := ownL_view (ti := ti) (tp := tp) (H := H) (d := d) (fun ty x t I h => own_view d ty x t I h)
  cases x with
  | sc v =>
   obtain ⟨rfl, rfl⟩ : AV.sc v = t ∧ [] = I := by simpa [ownT] using h
   rfl
  | nl =>
   obtain ⟨rfl, rfl⟩ : AV.ro 0 [] = t ∧ [] = I := by simpa [ownT] using h
   rfl
  | sl id off n z =>
   rw [ownT_sl] at h
   simp only [Option.bind_eq_some_iff] at h
   obtain ⟨i, h1, j, h2, h3⟩ := h
   split at h3
   case isFalse => cases h3
   split at h3
   case isFalse => cases h3
   simp only [Option.bind_eq_some_iff] at h3
   obtain ⟨cs, h4, q, h5, h6⟩ := h3
   obtain ⟨rfl, rfl⟩ : AV.ro n q.1 = t ∧ id :: q.2 = I := by simpa using h6
   rw [viewV_sl, h4, Option.bind_some, ih _ _ _ _ h5]
   rfl
  | agg cs =>
   rw [ownT_agg] at h
   simp only [Option.bind_eq_some_iff] at h
   obtain ⟨i, h1, q, h2, h3⟩ := h
   obtain ⟨rfl, rfl⟩ : AV.agg q.1 = t ∧ q.2 = I := by simpa using h3
   rw [viewV_agg, ih _ _ _ _ h2]
   rfl
  | tup cs =>
   rw [ownT_tup] at h
   simp only [Option.bind_eq_some_iff] at h
   obtain ⟨i, h1, q, h2, h3⟩ := h
   obtain ⟨rfl, rfl⟩ : AV.tup q.1 = t ∧ q.2 = I := by simpa using h3
   show (cs.mapM (viewV H d)).bind _ = _
   rw [ih _ _ _ _ h2]
   rfl
  | _ => simp [ownT] at h
theorem okLW_mono {f g : Nat → AV → Prop} (hfg : ∀ t x, f t x → g t x) : ∀ {ts : List Nat} {cs : List AV}, okLW f ts cs → okLW g ts cs
 | [], [], h => h
 | _ :: ts, _ :: cs, h => ⟨hfg _ _ h.1, okLW_mono hfg h.2⟩
theorem okW_mono : ∀ (d ty : Nat) (x : AV), okW ti tp d ty x → okW ti tp (d + 1) ty x
 | 0, _, _, h => by cases h
 | d + 1, ty, x, h => by
  cases x with
  | sc v => trivial
  | ro n cells =>
   obtain ⟨i, j, h1, h2, h3, h4⟩ := h
   exact ⟨i, j, h1, h2, h3, okLW_mono (okW_mono d) h4⟩
  | agg cs =>
   obtain ⟨i, h1, h2⟩ := h
   exact ⟨i, h1, okLW_mono (okW_mono d) h2⟩
  | tup cs =>
   obtain ⟨i, h1, h2⟩ := h
   exact ⟨i, h1, okLW_mono (okW_mono d) h2⟩
  | _ => cases h
theorem okW_le {d d' ty : Nat} {x : AV} (h : okW ti tp d ty x) (hd : d ≤ d') : okW ti tp d' ty x := by
 induction hd with
 | refl => exact h
 | step _ ih => exact okW_mono _ _ _ ih
theorem okLW_le {d d' : Nat} {ts : List Nat} {cs : List AV} (h : okLW (okW ti tp d) ts cs) (hd : d ≤ d') : okLW (okW ti tp d') ts cs := okLW_mono (fun _ _ h => okW_le h hd) h
end
inductive Ck where
 | blk (id : Nat) (cs : List AV) (a : Bool)
 | own (x : AV) (ty : Nat) (t : AV)
 | shr (x : AV) (ty : Nat) (t : AV) (y : AV) (ty' : Nat) (t' : AV)
def CkOk (H : Heap) (c : Ck) (I : List Nat) : Prop :=
 match c with
 | .blk id cs a => I = [id] ∧ H[id]? = some ⟨cs, true, a⟩
 | .own x ty t => isLeaf x = true ∧ okW ti0 E0.tp 6 ty t ∧ ownT ti0 E0.tp H 6 ty x = some (t, I)
 | .shr x ty t y ty' t' => (isLeaf x = true ∧ okW ti0 E0.tp 6 ty t ∧ ownT ti0 E0.tp H 6 ty x = some (t, I)) ∧ okW ti0 E0.tp 6 ty' t' ∧ ∃ J, ownT ti0 E0.tp H 6 ty' y = some (t', J) ∧ ∀ i ∈ J, i ∈ I
def SepI (H : Heap) : List Ck → List Nat → Prop
 | [], I => I = []
 | c :: L, I => ∃ J R, I = J ++ R ∧ CkOk H c J ∧ SepI H L R
def Sep (H : Heap) (L : List Ck) : Prop := ∃ I, SepI H L I ∧ I.Nodup
inductive Pk : List Ck → Ck → List Ck → Prop
 | here {c : Ck} {L : List Ck} : Pk (c :: L) c L
 | there {a c : Ck} {L L' : List Ck} : Pk L c L' → Pk (a :: L) c (a :: L')
section
variable {H H' : Heap} {L L' L1 L2 : List Ck} {c : Ck} {I J R : List Nat}
theorem sep_nil : Sep H [] := ⟨[], rfl, List.nodup_nil⟩
theorem CkOk.frame (h : CkOk H c I) (hs : ∀ i ∈ I, H'[i]? = H[i]?) : CkOk H' c I := by
 cases c with
 | blk id cs a =>
  obtain ⟨rfl, h2⟩ := h
  exact ⟨rfl, by rw [hs id (by simp)]; exact h2⟩
 | own x ty t => exact ⟨h.1, h.2.1, own_frame 6 ty x _ h.2.2 hs⟩
 | shr x ty t y ty' t' =>
  obtain ⟨⟨h1, h2, h3⟩, h4, J, h5, h6⟩ := h
  exact ⟨⟨h1, h2, own_frame 6 ty x _ h3 hs⟩, h4, J, own_frame 6 ty' y _ h5 fun i hi => hs i (h6 i hi), h6⟩
theorem CkOk.lt (h : CkOk H c I) : ∀ i ∈ I, i < H.length := by
 cases c with
 | blk id cs a =>
  obtain ⟨rfl, h2⟩ := h
  intro i hi
  rw [List.mem_singleton] at hi
  subst hi
  exact (List.getElem?_eq_some_iff.1 h2).1
 | own x ty t => exact own_lt 6 ty x _ h.2.2
 | shr x ty t y ty' t' => exact own_lt 6 ty x _ h.1.2.2
theorem SepI.frame : ∀ {L : List Ck} {I : List Nat}, SepI H L I → (∀ i ∈ I, H'[i]? = H[i]?) → SepI H' L I
 | [], I, h, _ => h
 | c :: L, I, h, hs => by
  obtain ⟨J, R, rfl, h1, h2⟩ := h
  exact ⟨J, R, rfl, h1.frame fun i hi => hs i (List.mem_append_left _ hi), h2.frame fun i hi => hs i (List.mem_append_right _ hi)⟩
theorem SepI.lt : ∀ {L : List Ck} {I : List Nat}, SepI H L I → ∀ i ∈ I, i < H.length
 | [], I, h => by
  cases (show I = [] from h)
  intro i hi
  cases hi
 | c :: L, I, h => by
  obtain ⟨J, R, rfl, h1, h2⟩ := h
  intro i hi
  rcases List.mem_append.1 hi with hi | hi
  ·exact h1.lt i hi
  ·exact h2.lt i hi
theorem SepI.grow (h : SepI H L I) (X : List Blk) : SepI (H ++ X) L I := h.frame fun i hi => List.getElem?_append_left (h.lt i hi)
theorem Sep.grow (h : Sep H L) (X : List Blk) : Sep (H ++ X) L := by
 obtain ⟨I, h1, h2⟩ := h
 exact ⟨I, h1.grow X, h2⟩
theorem Sep.new {X : List Blk} (hs : Sep H L) (hc : CkOk (H ++ X) c J) (hJ : J.Nodup) (hge : ∀ i ∈ J, H.length ≤ i) : Sep (H ++ X) (c :: L) := by
 obtain ⟨I, h1, h2⟩ := hs
 refine ⟨J ++ I, ⟨J, I, rfl, hc, h1.grow X⟩, List.nodup_append.2 ⟨hJ, h2, fun a ha b hb e => ?_⟩⟩
 have := h1.lt b hb
 have := hge a ha
 omega
theorem Pk.sepI : ∀ {L L' : List Ck} {c : Ck} {I : List Nat}, Pk L c L' → SepI H L I → ∃ J R, CkOk H c J ∧ SepI H L' R ∧ I.Perm (J ++ R)
 | _, _, _, _, .here, h => by
  obtain ⟨J, R, rfl, h1, h2⟩ := h
  exact ⟨J, R, h1, h2, List.Perm.refl _⟩
 | _, _, _, _, .there p, h => by
  obtain ⟨J, R, rfl, h1, h2⟩ := h
  obtain ⟨J', R', g1, g2, g3⟩ := p.sepI h2
  refine ⟨J', J ++ R', g1, ⟨J, R', rfl, h1, g2⟩, ?_⟩
  refine (List.Perm.append_left J g3).trans ?_
  rw [← List.append_assoc, ← List.append_assoc]
  exact List.Perm.append_right R' List.perm_append_comm
theorem Sep.pick (h : Sep H L) (p : Pk L c L') : Sep H (c :: L') := by
 obtain ⟨I, h1, h2⟩ := h
 obtain ⟨J, R, g1, g2, g3⟩ := p.sepI h1
 exact ⟨J ++ R, ⟨J, R, rfl, g1, g2⟩, g3.nodup_iff.1 h2⟩
theorem Sep.tail (h : Sep H (c :: L)) : Sep H L := by
 obtain ⟨I, ⟨J, R, rfl, h1, h2⟩, h3⟩ := h
 exact ⟨R, h2, (List.nodup_append.1 h3).2.1⟩
theorem Sep.blk {id : Nat} {cs : List AV} {a : Bool} (h : Sep H L) (p : Pk L (.blk id cs a) L') : H[id]? = some ⟨cs, true, a⟩ := by
 obtain ⟨I, ⟨J, R, rfl, h1, h2⟩, h3⟩ := h.pick p
 exact h1.2
theorem Sep.put {id : Nat} {cs : List AV} {a : Bool} (h : Sep H L) (p : Pk L (.blk id cs a) L') (cs' : List AV) (a' : Bool) : Sep (H.set id ⟨cs', true, a'⟩) (.blk id cs' a' :: L') := by
 obtain ⟨I, ⟨J, R, rfl, ⟨rfl, h1⟩, h2⟩, h3⟩ := h.pick p
 have hn := (List.nodup_cons.1 h3).1
 have hl := (List.getElem?_eq_some_iff.1 h1).1
 refine ⟨[id] ++ R, ⟨[id], R, rfl, ⟨rfl, by rw [List.getElem?_set_self hl]⟩, h2.frame fun i hi => ?_⟩, h3⟩
 rw [List.getElem?_set_ne]
 rintro rfl
 exact hn hi
theorem Sep.own {x t : AV} {ty : Nat} (h : Sep H L) (p : Pk L (.own x ty t) L') : isLeaf x = true ∧ okW ti0 E0.tp 6 ty t ∧ ∃ I, ownT ti0 E0.tp H 6 ty x = some (t, I) ∧ I.Nodup := by
 obtain ⟨I, ⟨J, R, rfl, ⟨h0, h1, h1'⟩, h2⟩, h3⟩ := h.pick p
 exact ⟨h0, h1, J, h1', (List.nodup_append.1 h3).1⟩
theorem Sep.seen {x t y t' : AV} {ty ty' : Nat} (h : Sep H L) (p : Pk L (.shr x ty t y ty' t') L') : okW ti0 E0.tp 6 ty' t' ∧ ∃ I, ownT ti0 E0.tp H 6 ty' y = some (t', I) := by
 obtain ⟨I, ⟨J, R, rfl, ⟨h0, h1, J', h1', h3⟩, h2⟩, h4⟩ := h.pick p
 exact ⟨h1, J', h1'⟩
theorem Sep.forget {x t y t' : AV} {ty ty' : Nat} (h : Sep H L) (p : Pk L (.shr x ty t y ty' t') L') : Sep H (.own x ty t :: L') := by
 obtain ⟨I, ⟨J, R, rfl, ⟨h0, _⟩, h2⟩, h4⟩ := h.pick p
 exact ⟨J ++ R, ⟨J, R, rfl, h0, h2⟩, h4⟩
theorem Sep.nl {ty : Nat} (h : Sep H L) (hty : ∃ i j, ti0 ty = some i ∧ ti0 i.elem = some j) : Sep H (.own .nl ty (.ro 0 []) :: L) := by
 obtain ⟨I, h1, h2⟩ := h
 obtain ⟨i, j, e1, e2⟩ := hty
 exact ⟨[] ++ I, ⟨[], I, rfl, ⟨rfl, ⟨i, j, e1, e2, by simp, by simp [okLW]⟩, rfl⟩, h1⟩, h2⟩
inductive OwnR : List Ck → List AV → List Nat → List AV → List Ck → Prop
 | nil {L : List Ck} : OwnR L [] [] [] L
 | sc {L L' : List Ck} {v : Value} {raw cells : List AV} {ty : Nat} {tys : List Nat} : OwnR L raw tys cells L' → OwnR L (.sc v :: raw) (ty :: tys) (.sc v :: cells) L'
 | nl {L L' : List Ck} {raw cells : List AV} {ty : Nat} {tys : List Nat} : OwnR L raw tys cells L' → OwnR L (.nl :: raw) (ty :: tys) (.ro 0 [] :: cells) L'
 | own {L L1 L' : List Ck} {x t : AV} {raw cells : List AV} {ty : Nat} {tys : List Nat} : Pk L (.own x ty t) L1 → OwnR L1 raw tys cells L' → OwnR L (x :: raw) (ty :: tys) (t :: cells) L'
 | agg {L L1 L' : List Ck} {cs ts raw cells : List AV} {ty : Nat} {tys cty : List Nat} : (∃ i, ti0 ty = some i ∧ i.cty = cty) → OwnR L cs cty ts L1 → OwnR L1 raw tys cells L' → OwnR L (.agg cs :: raw) (ty :: tys) (.agg ts :: cells) L'
theorem OwnR.sound : ∀ {L L' : List Ck} {raw cells : List AV} {tys : List Nat} {I : List Nat}, OwnR L raw tys cells L' → SepI H L I → ∀ d, okLW (okW ti0 E0.tp d) tys cells → ∃ J R, ownL (ownT ti0 E0.tp H d) tys raw = some (cells, J) ∧ SepI H L' R ∧ I.Perm (J ++ R)
 | _, _, _, _, _, I, .nil, h, d, _ => ⟨[], I, rfl, h, List.Perm.refl _⟩
 | _, _, _, _, _, I, .sc q, h, d + 1, ho => by
  obtain ⟨J, R, h1, h2, h3⟩ := q.sound h (d + 1) ho.2
  refine ⟨J, R, ?_, h2, h3⟩
  rw [ownL, ownT_sc, Option.bind_some, h1]
  rfl
 | _, _, _, _, _, I, .nl q, h, d + 1, ho => by
  obtain ⟨J, R, h1, h2, h3⟩ := q.sound h (d + 1) ho.2
  refine ⟨J, R, ?_, h2, h3⟩
  rw [ownL, show ownT ti0 E0.tp H (d + 1) _ .nl = some (.ro 0 [], []) from rfl, Option.bind_some, h1]
  rfl
 | _, _, _, _, _, I, .own p q, h, d, ho => by
  obtain ⟨J1, R1, g1, g2, g3⟩ := p.sepI h
  obtain ⟨J, R, h1, h2, h3⟩ := q.sound g2 d ho.2
  have e := own_dep 6 d _ _ _ _ g1.2.2 ho.1
  refine ⟨J1 ++ J, R, ?_, h2, ?_⟩
  ·rw [ownL, e, Option.bind_some, h1]
   rfl
  ·refine g3.trans ?_
   rw [List.append_assoc]
   exact List.Perm.append_left J1 h3
 | _, _, _, _, _, I, .agg hty p q, h, d + 1, ho => by
  obtain ⟨i, e1, rfl⟩ := hty
  obtain ⟨i', g1, g2⟩ := ho.1
  rw [e1] at g1
  cases g1
  obtain ⟨J1, R1, a1, a2, a3⟩ := p.sound h (d + 1) (okLW_le g2 (Nat.le_succ d))
  obtain ⟨J, R, h1, h2, h3⟩ := q.sound a2 (d + 1) ho.2
  have a1' := ownL_dep (fun ty x t I h ho => own_dep (d + 1) d ty x t I h ho) _ _ _ _ a1 g2
  refine ⟨J1 ++ J, R, ?_, h2, ?_⟩
  ·rw [ownL, ownT_agg, e1, Option.bind_some, a1', Option.bind_some, Option.bind_some, h1]
   rfl
  ·refine a3.trans ?_
   rw [List.append_assoc]
   exact List.Perm.append_left J1 h3
 | _, _, _, _, _, I, .sc q, h, 0, ho => by cases ho.1
 | _, _, _, _, _, I, .nl q, h, 0, ho => by cases ho.1
 | _, _, _, _, _, I, .agg _ p q, h, 0, ho => by cases ho.1
end
end Go.Proofs.YtdameggfgnpehaaGreatDoor.Abs
set_option linter.unusedVariables false
set_option linter.unusedSimpArgs false
namespace Go.Proofs.YtdameggfgnpehaaGreatDoor.Abs
open Go
def Gd {β : Type} (G : Option β → Prop) (o : Option β) : Prop := G o
section
variable {β : Type} {n : Nat} {H : Heap} {L L' L1 L2 : List Ck} {G : Option β → Prop} {K : AV → Option β} {KH : AV → Heap → Option β}
theorem g_congr {a b : Option β} (e : a = b) (h : Gd G b) : Gd G a := by rw [e]; exact h
theorem g_new {cs : List AV} (hs : Sep H L) (h : ∀ i H', Sep H' (.blk i cs true :: L) → Gd G (KH (.ptr i 0) H')) : Gd G (pNew cs H fun x H => KH x H) :=
 h _ _ (hs.new (J := [H.length]) ⟨rfl, by rw [List.getElem?_append_right (Nat.le_refl _), Nat.sub_self]; rfl⟩ (by simp) (by simp))
theorem g_newSl {k w : Nat} {cs : List AV} {a : Bool} (hs : Sep H L) (h : ∀ i H', Sep H' (.blk i cs a :: L) → Gd G (KH (.sl i 0 k w) H')) : Gd G (pNewSl k w cs a H fun x H => KH x H) :=
 h _ _ (hs.new (J := [H.length]) ⟨rfl, by rw [List.getElem?_append_right (Nat.le_refl _), Nat.sub_self]; rfl⟩ (by simp) (by simp))
theorem g_box {x : AV} {cs : List AV} (hs : Sep H L) (hc : cellsA x = some cs) (h : ∀ i H', Sep H' (.blk i cs true :: L) → Gd G (KH (.ptr i 0) H')) : Gd G (pBox x H fun x H => KH x H) := by
 refine g_congr (b := pNew cs H fun x H => KH x H) ?_ (g_new hs h)
 show (cellsA x).bind _ = _
 rw [hc]
 rfl
theorem cells_fl {cs : List AV} (h : cs.all isFl = true) : cellsA (.agg cs) = some cs := fl_cells h
theorem cells_agg {cs : List AV} (h : cs.all isLeaf = true) : cellsA (.agg cs) = some cs := by
 show (if cs.all isLeaf then some cs else none) = _
 rw [if_pos h]
theorem lf_c {x : AV} {xs : List AV} (h : isLeaf x = true) (hs : xs.all isLeaf = true) : (x :: xs).all isLeaf = true := by
 rw [List.all_cons, h, hs]
 rfl
theorem cells_leaf {x : AV} (h : isLeaf x = true) : cellsA x = some [x] := by
 cases x <;> simp_all [cellsA, isLeaf]
theorem g_ld {i o : Nat} {cs : List AV} {a : Bool} {c : AV} (hs : Sep H L) (hp : Pk L (.blk i cs a) L1) (hc : cs[o]? = some c) (h : Gd G (K c)) : Gd G (pLoad false 1 (.ptr i o) H fun x => K x) := by
 refine g_congr ?_ h
 obtain ⟨hlt, he⟩ := List.getElem?_eq_some_iff.1 hc
 have e : rdCells H i o 1 = some [c] := by
  simp only [rdCells, hs.blk hp, if_true]
  rw [if_pos (by omega), List.drop_eq_getElem_cons hlt, he]
  rfl
 exact ldF e _
theorem g_ldA {i o w : Nat} {cs ds : List AV} {a : Bool} (hs : Sep H L) (hp : Pk L (.blk i cs a) L1) (hl : o + w ≤ cs.length) (hc : (cs.drop o).take w = ds) (h : Gd G (K (.agg ds))) : Gd G (pLoad true w (.ptr i o) H fun x => K x) := by
 refine g_congr ?_ h
 have e : rdCells H i o w = some ds := by
  simp only [rdCells, hs.blk hp, if_true]
  rw [if_pos hl, hc]
 exact ldT e _
theorem g_ldW {i w : Nat} {cs : List AV} {a : Bool} (hs : Sep H L) (hp : Pk L (.blk i cs a) L1) (hl : cs.length = w) (h : Gd G (K (.agg cs))) : Gd G (pLoad true w (.ptr i 0) H fun x => K x) :=
 g_ldA hs hp (by omega) (by rw [List.drop_zero, ← hl, List.take_length]) h
theorem g_st {i o w : Nat} {cs cs' ds : List AV} {a : Bool} {y : AV} {KS : Heap → Option β} (hs : Sep H L) (hp : Pk L (.blk i cs a) L1) (hy : cellsA y = some ds) (hd : ds.length = w) (hl : o + w ≤ cs.length) (hc : splice cs o ds = cs') (h : ∀ H', Sep H' (.blk i cs' a :: L1) → Gd G (KS H')) : Gd G (pStore w (.ptr i o) y H fun H => KS H) := by
 have hb := hs.blk hp
 refine g_congr (st_at w i o y ⟨cs, true, a⟩ ds H _ hb hy hd hl rfl) ?_
 have := hs.put hp cs' a
 rw [← hc] at this
 exact h _ (by rw [← hc]; exact this)
theorem g_ldR {cells : List AV} {c : AV} (hc : cells[0]? = some c) (h : Gd G (K c)) : Gd G (pLoad false 1 (.rp cells) H fun x => K x) := by
 cases cells with
 | nil => cases hc
 | cons x xs =>
  obtain rfl : x = c := by simpa using hc
  refine g_congr (ld1_rp x xs H _) h
theorem g_ldAR {w : Nat} {cells ds : List AV} (hl : w ≤ cells.length) (hc : cells.take w = ds) (h : Gd G (K (.agg ds))) : Gd G (pLoad true w (.rp cells) H fun x => K x) := by
 refine g_congr ?_ h
 simp only [pLoad, hl, if_true, hc]
theorem g_ldE {w : Nat} {cs rest : List AV} (hw : cs.length = w) (h : Gd G (K (.agg cs))) : Gd G (pLoad true w (.rp (cs ++ rest)) H fun x => K x) := g_congr (ld_rp w cs rest H _ hw) h
theorem g_fadr {o i off o' : Nat} (e : off + o = o') (h : Gd G (K (.ptr i o'))) : Gd G (pFadr o (.ptr i off) fun x => K x) := by subst e; exact h
theorem g_fadrR {o : Nat} {cells : List AV} (h : Gd G (K (.rp (cells.drop o)))) : Gd G (pFadr o (.rp cells) fun x => K x) := h
theorem g_nil {id off : Nat} (h : Gd G (K (.ptr id off))) : Gd G (pNil (.ptr id off) fun t => K t) := h
theorem g_nilR {cs : List AV} (h : Gd G (K (.rp cs))) : Gd G (pNil (.rp cs) fun t => K t) := h
theorem g_fld {o : Nat} {cs : List AV} {c : AV} (hc : cs[o]? = some c) (h : Gd G (K c)) : Gd G (pFld false o 1 (.agg cs) fun x => K x) := by
 refine g_congr ?_ h
 obtain ⟨hlt, he⟩ := List.getElem?_eq_some_iff.1 hc
 simp only [pFld]
 rw [if_pos (by omega), List.drop_eq_getElem_cons hlt, he]
 rfl
theorem g_fldA {o w : Nat} {cs ds : List AV} (hl : o + w ≤ cs.length) (hc : (cs.drop o).take w = ds) (h : Gd G (K (.agg ds))) : Gd G (pFld true o w (.agg cs) fun x => K x) := by
 refine g_congr ?_ h
 simp only [pFld]
 rw [if_pos hl, hc]
 rfl
theorem fill_c {z cs z' r : List AV} {o n : Nat} {v : AV} {rest : List (Nat × Nat × AV)} (h : cellsA v = some cs) (hl : cs.length = n) (ho : o + n ≤ z.length) (hz : splice z o cs = z') (h2 : fillA z' rest = some r) : fillA z ((o, n, v) :: rest) = some r := by
 subst hz
 subst hl
 simp only [fillA, h, Option.bind_some, if_true, if_pos ho]
 exact h2
theorem g_fill {zs cs : List AV} {ps : List (Nat × Nat × AV)} {KL : List AV → Option β} (hf : fillA zs ps = some cs) (h : Gd G (KL cs)) : Gd G ((fillA zs ps).bind fun c => KL c) := by
 rw [hf]
 exact h
theorem g_extr {i : Nat} {vs : List AV} {v : AV} (hv : vs[i]? = some v) (h : Gd G (K v)) : Gd G (pExtr (.tup vs) i fun x => K x) := by
 refine g_congr ?_ h
 show (vs[i]?).bind _ = _
 rw [hv]
 rfl
theorem g_len {m : Nat} {cs : List AV} (h : Gd G (K (.sc (.int .i64 m)))) : Gd G (pLen (.ro m cs) fun x => K x) := h
theorem g_lenS {s : ByteArray} (h : Gd G (K (.sc (.int .i64 s.size)))) : Gd G (pLenS (.sc (.string s)) fun x => K x) := h
theorem g_lenN (h : Gd G (K (.sc (.int .i64 (0 : Nat))))) : Gd G (pLen .nl fun x => K x) := h
theorem g_lenL {i o m w : Nat} (h : Gd G (K (.sc (.int .i64 m)))) : Gd G (pLen (.sl i o m w) fun x => K x) := h
theorem len_own {d ty m : Nat} {x : AV} {cells : List AV} {I : List Nat} (h : ownT ti0 E0.tp H d ty x = some (.ro m cells, I)) : lenA x = some m := by
 cases d with
 | zero => simp [ownT] at h
 | succ d =>
  cases x with
  | sc v => simp [ownT] at h
  | nl =>
   have := (Option.some.inj h)
   simp only [Prod.mk.injEq, AV.ro.injEq] at this
   rw [← this.1.1]
   rfl
  | sl id off n z =>
   rw [ownT_sl] at h
   simp only [Option.bind_eq_some_iff] at h
   obtain ⟨i, h1, j, h2, h3⟩ := h
   split at h3
   case isFalse => cases h3
   split at h3
   case isFalse => cases h3
   simp only [Option.bind_eq_some_iff] at h3
   obtain ⟨cs, h4, q, h5, h6⟩ := h3
   obtain ⟨h7, -⟩ : AV.ro n q.1 = .ro m cells ∧ _ := by simpa only [Prod.mk.injEq, Option.some.injEq] using h6
   cases h7
   rfl
  | agg cs =>
   rw [ownT_agg] at h
   simp only [Option.bind_eq_some_iff] at h
   obtain ⟨i, h1, q, h2, h3⟩ := h
   simp at h3
  | tup cs =>
   rw [ownT_tup] at h
   simp only [Option.bind_eq_some_iff] at h
   obtain ⟨i, h1, q, h2, h3⟩ := h
   simp at h3
  | _ => simp [ownT] at h
theorem g_lenO {x : AV} {ty m : Nat} {cells : List AV} (hs : Sep H L) (hp : Pk L (.own x ty (.ro m cells)) L1) (h : Gd G (K (.sc (.int .i64 m)))) : Gd G (pLen x fun x => K x) := by
 obtain ⟨_, _, I, e, _⟩ := hs.own hp
 have hl := len_own e
 refine g_congr ?_ h
 have key : ∀ (x : AV), (∀ v, x ≠ .sc v) → lenA x = some m → pLen x K = K (.sc (.int .i64 m)) := by
  intro x hx hl
  cases x with
  | sc v => exact absurd rfl (hx v)
  | nl => cases hl; rfl
  | ro n cs => cases hl; rfl
  | sl a b c d => cases hl; rfl
  | _ => cases hl
 refine key x (fun v hv => ?_) hl
 subst hv
 simp [ownT] at e
theorem g_bin {op : BinOp} {x y v : AV} (e : ∀ k : AV → Option β, pBin op x y k = k v) (h : Gd G (K v)) : Gd G (pBin op x y fun t => K t) := g_congr (e _) h
theorem g_binB {op : BinOp} {x y v : AV} (e : ∀ k : AV → Option β, pBinB op x y k = k v) (h : Gd G (K v)) : Gd G (pBinB op x y fun t => K t) := g_congr (e _) h
theorem g_eql {a b : Int} (h : Gd G (K (.sc (.bool (decide (a = b)))))) : Gd G (pBin .eql (.sc (.int .i64 a)) (.sc (.int .i64 b)) fun t => K t) := h
theorem g_neq {a b : Int} (h : Gd G (K (.sc (.bool (!decide (a = b)))))) : Gd G (pBin .neq (.sc (.int .i64 a)) (.sc (.int .i64 b)) fun t => K t) := h
theorem g_lss {a b : Int} (h : Gd G (K (.sc (.bool (decide (a < b)))))) : Gd G (pBin .lss (.sc (.int .i64 a)) (.sc (.int .i64 b)) fun t => K t) := h
theorem g_leq {a b : Int} (h : Gd G (K (.sc (.bool (decide (a ≤ b)))))) : Gd G (pBin .leq (.sc (.int .i64 a)) (.sc (.int .i64 b)) fun t => K t) := h
theorem g_gtr {a b : Int} (h : Gd G (K (.sc (.bool (decide (b < a)))))) : Gd G (pBin .gtr (.sc (.int .i64 a)) (.sc (.int .i64 b)) fun t => K t) := h
theorem g_geq {a b : Int} (h : Gd G (K (.sc (.bool (decide (b ≤ a)))))) : Gd G (pBin .geq (.sc (.int .i64 a)) (.sc (.int .i64 b)) fun t => K t) := h
theorem g_add {a b : Int} (h0 : -9223372036854775808 ≤ a + b) (h1 : a + b ≤ 9223372036854775807) (h : Gd G (K (.sc (.int .i64 (a + b))))) : Gd G (pBin .add (.sc (.int .i64 a)) (.sc (.int .i64 b)) fun t => K t) := by
 refine g_congr ?_ h
 show K (.sc (.int .i64 (IntKind.i64.wrap (a + b)))) = _
 rw [wrap64 _ h0 h1]
theorem g_sub {a b : Int} (h0 : -9223372036854775808 ≤ a - b) (h1 : a - b ≤ 9223372036854775807) (h : Gd G (K (.sc (.int .i64 (a - b))))) : Gd G (pBin .sub (.sc (.int .i64 a)) (.sc (.int .i64 b)) fun t => K t) := by
 refine g_congr ?_ h
 show K (.sc (.int .i64 (IntKind.i64.wrap (a - b)))) = _
 rw [wrap64 _ h0 h1]
theorem g_mul {a b : Int} (h0 : -9223372036854775808 ≤ a * b) (h1 : a * b ≤ 9223372036854775807) (h : Gd G (K (.sc (.int .i64 (a * b))))) : Gd G (pBin .mul (.sc (.int .i64 a)) (.sc (.int .i64 b)) fun t => K t) := by
 refine g_congr ?_ h
 show K (.sc (.int .i64 (IntKind.i64.wrap (a * b)))) = _
 rw [wrap64 _ h0 h1]
theorem g_eqlS {a b : ByteArray} (h : Gd G (K (.sc (.bool (a.toList == b.toList))))) : Gd G (pBin .eql (.sc (.string a)) (.sc (.string b)) fun t => K t) := h
theorem g_neqS {a b : ByteArray} (h : Gd G (K (.sc (.bool (!(a.toList == b.toList)))))) : Gd G (pBin .neq (.sc (.string a)) (.sc (.string b)) fun t => K t) := h
theorem g_not {b : Bool} (h : Gd G (K (.sc (.bool (!b))))) : Gd G (pUn .not (.sc (.bool b)) fun t => K t) := h
theorem g_letJ {α : Sort _} {γ : Type} {G : Option γ → Prop} {x : α} {f : α → Option γ} (h : Gd G (f x)) : Gd G (letJ x f) := h
theorem g_cT {b : Bool} {x y : Option β} (hb : b = true) (h : Gd G x) : Gd G (pCond (.sc (.bool b)) x y) := by subst hb; exact h
theorem g_cF {b : Bool} {x y : Option β} (hb : b = false) (h : Gd G y) : Gd G (pCond (.sc (.bool b)) x y) := by subst hb; exact h
theorem g_c {b : Bool} {x y : Option β} (h1 : b = true → Gd G x) (h2 : b = false → Gd G y) : Gd G (pCond (.sc (.bool b)) x y) := by
 cases b
 ·exact h2 rfl
 ·exact h1 rfl
theorem g_cD {p : Prop} [Decidable p] {x y : Option β} (h1 : p → Gd G x) (h2 : ¬ p → Gd G y) : Gd G (pCond (.sc (.bool (decide p))) x y) := g_c (fun h => h1 (of_decide_eq_true h)) (fun h => h2 (of_decide_eq_false h))
theorem g_cN {b : Bool} {x y : Option β} (h1 : b = false → Gd G x) (h2 : b = true → Gd G y) : Gd G (pCond (.sc (.bool (!b))) x y) := g_c (fun h => h1 (by simpa using h)) (fun h => h2 (by simpa using h))
theorem g_cND {p : Prop} [Decidable p] {x y : Option β} (h1 : ¬ p → Gd G x) (h2 : p → Gd G y) : Gd G (pCond (.sc (.bool (!decide p))) x y) := g_cN (fun h => h1 (of_decide_eq_false h)) (fun h => h2 (of_decide_eq_true h))
theorem g_cDT {p : Prop} [Decidable p] {x y : Option β} (hp : p) (h : Gd G x) : Gd G (pCond (.sc (.bool (decide p))) x y) := g_cT (decide_eq_true hp) h
theorem g_cDF {p : Prop} [Decidable p] {x y : Option β} (hp : ¬ p) (h : Gd G y) : Gd G (pCond (.sc (.bool (decide p))) x y) := g_cF (decide_eq_false hp) h
theorem g_gd {b t : Bool} {m : (AV → Heap → Option β) → Option β} (h1 : b = t → Gd G (m fun x H => KH x H)) (h2 : b = (!t) → Gd G (KH (.sc undef) H)) : Gd G (pGuard (.sc (.bool b)) t H m fun x H => KH x H) := by
 cases b <;> cases t <;> first | exact h1 rfl | exact h2 rfl
theorem g_gY {b t : Bool} {m : (AV → Heap → Option β) → Option β} (hb : b = t) (h : Gd G (m fun x H => KH x H)) : Gd G (pGuard (.sc (.bool b)) t H m fun x H => KH x H) := by
 subst hb
 cases b <;> exact h
theorem g_gN {b t : Bool} {m : (AV → Heap → Option β) → Option β} (hb : b = !t) (h : Gd G (KH (.sc undef) H)) : Gd G (pGuard (.sc (.bool b)) t H m fun x H => KH x H) := by
 subst hb
 cases t <;> exact h
theorem g_gU {t : Bool} {m : (AV → Heap → Option β) → Option β} (h : Gd G (KH (.sc undef) H)) : Gd G (pGuard (.sc undef) t H m fun x H => KH x H) := h
theorem g_pT {b : Bool} {x y : AV} (hb : b = true) (h : Gd G (K x)) : Gd G (pPick (.sc (.bool b)) x y fun t => K t) := by
 subst hb
 cases x <;> cases y <;> exact h
theorem g_pF {b : Bool} {x y : AV} (hb : b = false) (h : Gd G (K y)) : Gd G (pPick (.sc (.bool b)) x y fun t => K t) := by
 subst hb
 cases x <;> cases y <;> exact h
theorem g_pS {b : Bool} {x y : AV} (h1 : b = true → Gd G (K x)) (h2 : b = false → Gd G (K y)) : Gd G (pPick (.sc (.bool b)) x y fun t => K t) := by
 cases hb : b
 ·exact g_pF rfl (h2 hb)
 ·exact g_pT rfl (h1 hb)
inductive VwC (L : List Ck) : Nat → AV → AV → Prop
 | sc {d : Nat} {v : Value} : VwC L (d + 1) (.sc v) (.sc v)
 | nl {d : Nat} : VwC L (d + 1) .nl (.ro 0 [])
 | ro {d n : Nat} {cs : List AV} : VwC L (d + 1) (.ro n cs) (.ro n cs)
 | rp {d : Nat} {cs : List AV} : VwC L (d + 1) (.rp cs) (.rp cs)
 | own {d : Nat} {x t : AV} {ty : Nat} {L' : List Ck} : 6 ≤ d → Pk L (.own x ty t) L' → VwC L d x t
 | shr {d : Nat} {x t y t' : AV} {ty ty' : Nat} {L' : List Ck} : 6 ≤ d → Pk L (.shr x ty t y ty' t') L' → VwC L d y t'
end
inductive VwL (L : List Ck) : Nat → List AV → List AV → Prop
 | nil {d : Nat} : VwL L d [] []
 | cons {d : Nat} {x t : AV} {xs ts : List AV} : VwC L d x t → VwL L d xs ts → VwL L d (x :: xs) (t :: ts)
 | agg {d : Nat} {cs ds xs ts : List AV} : VwL L d cs ds → VwL L (d + 1) xs ts → VwL L (d + 1) (.agg cs :: xs) (.agg ds :: ts)
 | aggF {d : Nat} {cs xs ts : List AV} : cs.all isFl = true → VwL L (d + 2) xs ts → VwL L (d + 2) (.agg cs :: xs) (.agg cs :: ts)
 | sl {d i k w : Nat} {cs ds xs ts : List AV} {a : Bool} {L' : List Ck} : Pk L (.blk i cs a) L' → cs.length = k * w → VwL L d cs ds → VwL L (d + 1) xs ts → VwL L (d + 1) (.sl i 0 k w :: xs) (.ro k ds :: ts)
 | slA {d i o k w : Nat} {cs ds xs ts : List AV} {a : Bool} {L' : List Ck} : Pk L (.blk i cs a) L' → o + k * w ≤ cs.length → VwL L d ((cs.drop o).take (k * w)) ds → VwL L (d + 1) xs ts → VwL L (d + 1) (.sl i o k w :: xs) (.ro k ds :: ts)
 | ptr {d i : Nat} {cs ds xs ts : List AV} {a : Bool} {L' : List Ck} : Pk L (.blk i cs a) L' → VwL L d cs ds → VwL L (d + 1) xs ts → VwL L (d + 1) (.ptr i 0 :: xs) (.rp ds :: ts)
 | fn {d f : Nat} {ps cs ps' cs' xs ts : List AV} : VwL L d ps ps' → VwL L d cs cs' → VwL L (d + 1) xs ts → VwL L (d + 1) (.fn f ps cs :: xs) (.fn f ps' cs' :: ts)
section
variable {β : Type} {n : Nat} {H : Heap} {L L' L1 L2 : List Ck} {G : Option β → Prop} {K : AV → Option β} {KH : AV → Heap → Option β}
theorem VwC.sound (hs : Sep H L) {d : Nat} {x t : AV} (h : VwC L d x t) : viewV H d x = some t := by
 cases h with
 | sc => rfl
 | nl => rfl
 | ro => rfl
 | rp => rfl
 | own hd hp =>
  obtain ⟨_, h1, I, h2, _⟩ := hs.own hp
  exact own_view d _ _ _ I (own_dep 6 d _ _ _ _ h2 (okW_le h1 hd))
 | shr hd hp =>
  obtain ⟨h1, I, h2⟩ := hs.seen hp
  exact own_view d _ _ _ I (own_dep 6 d _ _ _ _ h2 (okW_le h1 hd))
theorem view_cons {d : Nat} {x t : AV} {xs ts : List AV} (h : viewV H d x = some t) (hs : xs.mapM (viewV H d) = some ts) : (x :: xs).mapM (viewV H d) = some (t :: ts) := by
 simp only [List.mapM_cons, h, hs, Option.pure_def, Option.bind_eq_bind, Option.bind_some]
theorem VwL.sound (hs : Sep H L) : ∀ {d : Nat} {xs ts : List AV}, VwL L d xs ts → xs.mapM (viewV H d) = some ts
 | _, _, _, .nil => rfl
 | _, _, _, .cons h q => view_cons (h.sound hs) (q.sound hs)
 | _, _, _, .agg h q => view_cons (by rw [viewV_agg, h.sound hs]; rfl) (q.sound hs)
 | _, _, _, .aggF h q => view_cons (by rw [viewV_agg, fl_view h]; rfl) (q.sound hs)
 | _, _, _, .sl (i := i) (k := k) (w := w) (cs := cs) hp hl h q => view_cons (by
   rw [viewV_sl]
   have hb := hs.blk hp
   have e : rdCells H i 0 (k * w) = some cs := by
    simp only [rdCells, hb, if_true, List.drop_zero, Nat.zero_add, ← hl, Nat.le_refl, List.take_length]
   rw [e, Option.bind_some, h.sound hs]
   rfl) (q.sound hs)
 | _, _, _, .slA (i := i) (o := o) (k := k) (w := w) (cs := cs) hp hl h q => view_cons (by
   rw [viewV_sl]
   have hb := hs.blk hp
   have e : rdCells H i o (k * w) = some ((cs.drop o).take (k * w)) := by
    simp only [rdCells, hb, if_true, hl]
   rw [e, Option.bind_some, h.sound hs]
   rfl) (q.sound hs)
 | _, _, _, .ptr (i := i) (cs := cs) hp h q => view_cons (by
   have hb := hs.blk hp
   show ((H[i]?).bind fun b => (rdCells H i 0 (b.cells.length - 0)).bind fun cs => (cs.mapM (viewV H _)).bind fun vs => some (AV.rp vs)) = _
   rw [hb, Option.bind_some]
   have e : rdCells H i 0 (cs.length - 0) = some cs := by
    simp only [rdCells, hb, if_true, List.drop_zero, Nat.zero_add, Nat.sub_zero, Nat.le_refl, List.take_length]
   show (rdCells H i 0 (cs.length - 0)).bind _ = _
   rw [e, Option.bind_some, h.sound hs]
   rfl) (q.sound hs)
 | _, _, _, .fn (d := d) (ps := ps) (cs := cs) h1 h2 q => view_cons (by
   show ((ps.mapM (viewV H d)).bind fun us => (cs.mapM (viewV H d)).bind fun ws => some (AV.fn _ us ws)) = _
   rw [h1.sound hs, Option.bind_some, h2.sound hs]
   rfl) (q.sound hs)
theorem g_callE {ty : Nat} {f : FuncId} {caps args vs : List AV} {t : AV} (hs : Sep H L) (hh : plainF f = false) (hv : VwL L 8 (args ++ caps) vs) (ht : tree E0 n ty f vs = some t) (h : Gd G (KH (instT ti0 E0.tp H.length ty t).1 (H ++ (instT ti0 E0.tp H.length ty t).2))) : Gd G ((PR n β).call ty (.fn f [] caps) args H fun x H => KH x H) := g_congr (PR_callC hh (hv.sound hs) ht) h
theorem g_callS {ty : Nat} {f : FuncId} {args vs : List AV} {v : Value} (hs : Sep H L) (hh : plainF f = false) (hv : VwL L 8 args vs) (ht : tree E0 n ty f vs = some (.sc v)) (h : Gd G (KH (.sc v) H)) : Gd G ((PR n β).call ty (.fn f [] []) args H fun x H => KH x H) := by
 refine g_callE hs hh (by rw [List.append_nil]; exact hv) ht ?_
 rw [instT_sc, List.append_nil]
 exact h
theorem inst_own {ty m : Nat} {cells : List AV} (hs : Sep H L) (hok : okW ti0 E0.tp 6 ty (.ro m cells)) : isLeaf (instT ti0 E0.tp H.length ty (.ro m cells)).1 = true ∧ Sep (H ++ (instT ti0 E0.tp H.length ty (.ro m cells)).2) (.own (instT ti0 E0.tp H.length ty (.ro m cells)).1 ty (.ro m cells) :: L) := by
 have hl : isLeaf (instT ti0 E0.tp H.length ty (.ro m cells)).1 = true := rfl
 refine ⟨hl, hs.new (J := List.range' H.length (instT ti0 E0.tp H.length ty (.ro m cells)).2.length) ⟨hl, hok, own_inst 6 ty _ H.length hok (Lies_end _ _)⟩ List.nodup_range' fun i hi => ?_⟩
 rw [List.mem_range'_1] at hi
 exact hi.1
theorem g_callO {ty m : Nat} {f : FuncId} {args vs cells : List AV} (hs : Sep H L) (hh : plainF f = false) (hv : VwL L 8 args vs) (ht : tree E0 n ty f vs = some (.ro m cells)) (hok : okW ti0 E0.tp 6 ty (.ro m cells)) (h : ∀ x H', isLeaf x = true → Sep H' (.own x ty (.ro m cells) :: L) → Gd G (KH x H')) : Gd G ((PR n β).call ty (.fn f [] []) args H fun x H => KH x H) := by
 refine g_callE hs hh (by rw [List.append_nil]; exact hv) ht ?_
 obtain ⟨h1, h2⟩ := inst_own hs hok
 exact h _ _ h1 h2
def InsL (ts : List Nat) (cs : List AV) (Φ : List AV → List Ck → Prop) : Prop := ∀ (H : Heap) (L : List Ck), Sep H L → ∃ xs Lx, xs = (instL ti0 E0.tp H.length ts cs).1 ∧ Sep (H ++ (instL ti0 E0.tp H.length ts cs).2) (Lx ++ L) ∧ Φ xs Lx
theorem ins_nil {ts : List Nat} : InsL ts [] fun xs Lx => xs = [] ∧ Lx = [] := fun H L hs => ⟨[], [], rfl, by simpa [instL] using hs, rfl, rfl⟩
theorem ins_sc {ts : List Nat} {v : Value} {cs : List AV} {Φ : List AV → List Ck → Prop} (h : InsL ts.tail cs Φ) : InsL ts (.sc v :: cs) fun xs Lx => ∃ ys, xs = .sc v :: ys ∧ Φ ys Lx := fun H L hs => by
 obtain ⟨ys, Ly, e1, e2, e3⟩ := h H L hs
 refine ⟨.sc v :: ys, Ly, ?_, ?_, ys, rfl, e3⟩
 ·simp only [instL, instT_sc, List.length_nil, Nat.add_zero]
  rw [e1]
 ·simpa only [instL, instT_sc, List.length_nil, Nat.add_zero, List.nil_append] using e2
theorem ins_ro {ts : List Nat} {m ty : Nat} {cells cs : List AV} {Φ : List AV → List Ck → Prop} (hty : ts.headD 0 = ty) (hok : okW ti0 E0.tp 6 ty (.ro m cells)) (h : InsL ts.tail cs Φ) : InsL ts (.ro m cells :: cs) fun xs Lx => ∃ x ys Ly, isLeaf x = true ∧ xs = x :: ys ∧ Lx = Ly ++ [.own x ty (.ro m cells)] ∧ Φ ys Ly := fun H L hs => by
 subst hty
 obtain ⟨h1, h2⟩ := inst_own hs hok
 obtain ⟨ys, Ly, e1, e2, e3⟩ := h _ _ h2
 refine ⟨_ :: ys, Ly ++ [.own _ (ts.headD 0) (.ro m cells)], ?_, ?_, _, ys, Ly, h1, rfl, rfl, e3⟩
 ·simp only [instL]
  rw [e1, List.length_append]
 ·simp only [instL]
  rw [List.length_append, List.append_assoc] at e2
  rw [List.append_assoc]
  exact e2
theorem ins_agg {ts cty : List Nat} {cs rest : List AV} {Φ Ψ : List AV → List Ck → Prop} (hty : ∃ i, ti0 (ts.headD 0) = some i ∧ i.cty = cty) (h1 : InsL cty cs Ψ) (h : InsL ts.tail rest Φ) : InsL ts (.agg cs :: rest) fun xs Lx => ∃ ys zs Ly Lz, xs = .agg ys :: zs ∧ Lx = Lz ++ Ly ∧ Ψ ys Ly ∧ Φ zs Lz := fun H L hs => by
 obtain ⟨i, hi, rfl⟩ := hty
 obtain ⟨ys, Ly, a1, a2, a3⟩ := h1 H L hs
 obtain ⟨zs, Lz, b1, b2, b3⟩ := h _ _ a2
 refine ⟨.agg ys :: zs, Lz ++ Ly, ?_, ?_, ys, zs, Ly, Lz, rfl, rfl, a3, b3⟩
 ·simp only [instL, instT_agg, hi, Option.getD_some]
  rw [a1, b1, List.length_append]
 ·simp only [instL, instT_agg, hi, Option.getD_some]
  rw [List.length_append, List.append_assoc] at b2
  rw [List.append_assoc]
  exact b2
theorem g_callA {ty : Nat} {f : FuncId} {args vs cs : List AV} {cty : List Nat} {Φ : List AV → List Ck → Prop} (hs : Sep H L) (hh : plainF f = false) (hv : VwL L 8 args vs) (ht : tree E0 n ty f vs = some (.agg cs)) (hty : ∃ i, ti0 ty = some i ∧ i.cty = cty) (hi : InsL cty cs Φ) (h : ∀ xs Lx H', Φ xs Lx → Sep H' (Lx ++ L) → Gd G (KH (.agg xs) H')) : Gd G ((PR n β).call ty (.fn f [] []) args H fun x H => KH x H) := by
 refine g_callE hs hh (by rw [List.append_nil]; exact hv) ht ?_
 obtain ⟨i, e1, rfl⟩ := hty
 obtain ⟨xs, Lx, a1, a2, a3⟩ := hi H L hs
 rw [instT_agg, e1, Option.getD_some, ← a1]
 exact h _ _ _ a3 a2
theorem g_callT {ty : Nat} {f : FuncId} {args vs cs : List AV} {tys : List Nat} {Φ : List AV → List Ck → Prop} (hs : Sep H L) (hh : plainF f = false) (hv : VwL L 8 args vs) (ht : tree E0 n ty f vs = some (.tup cs)) (hty : E0.tp ty = some tys) (hi : InsL tys cs Φ) (h : ∀ xs Lx H', Φ xs Lx → Sep H' (Lx ++ L) → Gd G (KH (.tup xs) H')) : Gd G ((PR n β).call ty (.fn f [] []) args H fun x H => KH x H) := by
 refine g_callE hs hh (by rw [List.append_nil]; exact hv) ht ?_
 obtain ⟨xs, Lx, a1, a2, a3⟩ := hi H L hs
 rw [instT_tup, hty, Option.getD_some, ← a1]
 exact h _ _ _ a3 a2
theorem g_hm {ty : Nat} {f : FuncId} {caps args : List AV} (hh : E0.hm f = true) (he : E0.ext f = none) (h : Gd G (evalFn E0 n β f (args ++ caps) H fun x H => KH x H)) : Gd G ((PR n β).call ty (.fn f [] caps) args H fun x H => KH x H) := by
 refine g_congr ?_ h
 show callF E0 (evalFn E0 n) ty f ([] ++ args ++ caps) H _ = _
 simp only [callF, he, hh, List.nil_append, if_true]
def Src (H : Heap) (L : List Ck) (sz : Nat) (cty : List Nat) (y : AV) (m : Nat) (cb : List AV) (L' : List Ck) : Prop :=
 ∀ I, SepI H L I → ∃ raw J R X, lenA y = some m ∧ content H sz y = some raw ∧ raw.all isLeaf = true ∧ raw.length = m * sz ∧ ownL (ownT ti0 E0.tp H 5) (List.replicate m cty).flatten raw = some (cb, J) ∧ SepI H L' R ∧ I.Perm (J ++ (R ++ X))
def isSc : AV → Bool
 | .sc v => leafV v
 | _ => false
theorem isSc_leaf {l : List AV} (h : l.all isSc = true) : l.all isLeaf = true := by
 rw [List.all_eq_true] at h ⊢
 intro x hx
 have := h x hx
 cases x <;> simp_all [isSc, isLeaf]
theorem ownL_isSc {d : Nat} : ∀ {ts : List Nat} {l : List AV}, ts.length = l.length → l.all isSc = true → ownL (ownT ti0 E0.tp H (d + 1)) ts l = some (l, [])
 | [], [], _, _ => rfl
 | t :: ts, x :: l, h, hl => by
  rw [List.all_cons, Bool.and_eq_true] at hl
  cases x with
  | sc v =>
   rw [ownL, ownT_sc, Option.bind_some, ownL_isSc (ts := ts) (l := l) (by simpa using h) hl.2]
   rfl
  | _ => simp [isSc] at hl
 | [], _ :: _, h, _ => by simp at h
 | _ :: _, [], h, _ => by simp at h
theorem src_ro {sz m : Nat} {cty : List Nat} {cells : List AV} (hc : cty.length = sz) (hl : cells.length = m * sz) (hf : cells.all isSc = true) : Src H L sz cty (.ro m cells) m cells L := fun I h => by
 refine ⟨cells, [], I, [], rfl, ?_, isSc_leaf hf, hl, ownL_isSc (by simp [hc, hl]) hf, h, by simp⟩
 show (if cells.length = m * sz then some cells else none) = _
 rw [if_pos hl]
theorem src_nl {sz : Nat} {cty : List Nat} : Src H L sz cty .nl 0 [] L := fun I h => ⟨[], [], I, [], rfl, rfl, rfl, by simp, by simp [ownL], h, by simp⟩
theorem src_blk {sz m i : Nat} {cty : List Nat} {raw cb : List AV} {a : Bool} (hp : Pk L (.blk i raw a) L1) (hl : raw.length = m * sz) (hf : raw.all isLeaf = true) (hr : OwnR L1 raw (List.replicate m cty).flatten cb L2) (hok : okLW (okW ti0 E0.tp 5) (List.replicate m cty).flatten cb) : Src H L sz cty (.sl i 0 m sz) m cb L2 := fun I h => by
 obtain ⟨J, R, ⟨rfl, h1⟩, h2, h3⟩ := hp.sepI h
 obtain ⟨J', R', g1, g2, g3⟩ := hr.sound h2 5 hok
 refine ⟨raw, J', R', [i], rfl, ?_, hf, hl, g1, g2, ?_⟩
 ·show (if sz = sz then rdCells H i 0 (m * sz) else none) = _
  simp only [if_true, rdCells, h1, Nat.zero_add, List.drop_zero, ← hl, Nat.le_refl, List.take_length]
 ·refine h3.trans (List.perm_append_comm.trans ?_)
  rw [← List.append_assoc]
  exact List.Perm.append_right [i] g3
theorem own_raw {d ty m : Nat} {x : AV} {cells : List AV} {I : List Nat} {i j : TI} (h1 : ti0 ty = some i) (h2 : ti0 i.elem = some j) (h : ownT ti0 E0.tp H (d + 1) ty x = some (.ro m cells, I)) :
  (x = .nl ∧ m = 0 ∧ cells = [] ∧ I = []) ∨ ∃ id off raw J b, x = .sl id off m j.size ∧ I = id :: J ∧ H[id]? = some b ∧ b.live = true ∧ b.app = true ∧ rdCells H id off (m * j.size) = some raw ∧ ownL (ownT ti0 E0.tp H d) (List.replicate m j.cty).flatten raw = some (cells, J) := by
 cases x with
 | sc v => simp [ownT] at h
 | nl =>
  have := (Option.some.inj h)
  simp only [Prod.mk.injEq, AV.ro.injEq] at this
  obtain ⟨⟨rfl, rfl⟩, rfl⟩ := this
  exact .inl ⟨rfl, rfl, rfl, rfl⟩
 | sl id off n z =>
  rw [ownT_sl] at h
  simp only [h1, h2, Option.bind_some] at h
  split at h
  case isFalse => cases h
  rename_i hz
  split at h
  case isFalse => cases h
  rename_i ha
  simp only [Option.bind_eq_some_iff] at h
  obtain ⟨cs, h4, q, h5, h6⟩ := h
  simp only [Option.some.injEq, Prod.mk.injEq, AV.ro.injEq] at h6
  obtain ⟨⟨rfl, rfl⟩, rfl⟩ := h6
  subst hz
  obtain ⟨hl, b, hb, hlv, _, _⟩ := rd_live h4
  have ha' : b.app = true := by simpa only [isApp, hb] using ha
  exact .inr ⟨id, off, cs, q.2, b, rfl, rfl, hb, hlv, ha', h4, h5⟩
 | agg cs =>
  rw [ownT_agg] at h
  simp only [Option.bind_eq_some_iff] at h
  obtain ⟨i, h1, q, h2, h3⟩ := h
  simp at h3
 | tup cs =>
  rw [ownT_tup] at h
  simp only [Option.bind_eq_some_iff] at h
  obtain ⟨i, h1, q, h2, h3⟩ := h
  simp at h3
 | _ => simp [ownT] at h
theorem ownL_leaf {f : Nat → AV → Option (AV × List Nat)} : ∀ {ts : List Nat} {xs : List AV} {p : List AV × List Nat}, (∀ t x a I, f t x = some (a, I) → isFl a = true → isLeaf x = true) → ownL f ts xs = some p → p.1.all isFl = true → xs.all isLeaf = true
 | ts, [], p, _, h, _ => rfl
 | [], _ :: _, p, _, h, _ => by simp [ownL] at h
 | t :: ts, x :: xs, p, hf, h, hl => by
  obtain ⟨a, b, h1, h2, rfl⟩ := ownL_cons h
  rw [List.all_cons, Bool.and_eq_true] at hl
  rw [List.all_cons, Bool.and_eq_true]
  exact ⟨hf t x a.1 a.2 h1 hl.1, ownL_leaf hf h2 hl.2⟩
theorem own_leaf {d ty : Nat} {x a : AV} {I : List Nat} (h : ownT ti0 E0.tp H d ty x = some (a, I)) (hl : isFl a = true) : isLeaf x = true := by
 cases d with
 | zero => simp [ownT] at h
 | succ d =>
  cases x with
  | sc v =>
   obtain ⟨rfl, _⟩ : AV.sc v = a ∧ [] = I := by simpa [ownT] using h
   exact hl
  | nl => rfl
  | sl id off n z => rfl
  | agg cs =>
   rw [ownT_agg] at h
   simp only [Option.bind_eq_some_iff] at h
   obtain ⟨i, h1, q, h2, h3⟩ := h
   obtain ⟨rfl, _⟩ : AV.agg q.1 = a ∧ q.2 = I := by simpa using h3
   cases hl
  | tup cs =>
   rw [ownT_tup] at h
   simp only [Option.bind_eq_some_iff] at h
   obtain ⟨i, h1, q, h2, h3⟩ := h
   obtain ⟨rfl, _⟩ : AV.tup q.1 = a ∧ q.2 = I := by simpa using h3
   cases hl
  | _ => simp [ownT] at h
theorem src_own {sz m ty : Nat} {cty : List Nat} {y : AV} {cb : List AV} (hty : ∃ i j, ti0 ty = some i ∧ ti0 i.elem = some j ∧ j.size = sz ∧ j.cty = cty) (hp : Pk L (.own y ty (.ro m cb)) L2) (hf : cb.all isFl = true) : Src H L sz cty y m cb L2 := fun I h => by
 obtain ⟨i, j, e1, e2, rfl, rfl⟩ := hty
 obtain ⟨J, R, ⟨_, _, h1⟩, h2, h3⟩ := hp.sepI h
 rcases own_raw e1 e2 h1 with ⟨rfl, rfl, rfl, rfl⟩ | ⟨id, off, raw, J', b, rfl, rfl, hb, hlv, ha, h4, h5⟩
 ·exact ⟨[], [], R, [], rfl, rfl, rfl, by simp, by simp [ownL], h2, by simpa using h3⟩
 ·have hl := (rd_live h4).1
  refine ⟨raw, J', R, [id], rfl, ?_, ownL_leaf (fun t x a I h hl => own_leaf h hl) h5 hf, hl, h5, h2, ?_⟩
  ·show (if j.size = j.size then rdCells H id off (m * j.size) else none) = _
   rw [if_pos rfl, h4]
  ·refine h3.trans ?_
   rw [← List.append_assoc]
   exact (List.perm_append_comm (l₁ := [id]) (l₂ := J' ++ R))
theorem src_keep {sz m ty : Nat} {cty : List Nat} {y : AV} {cb : List AV} (hty : ∃ i j, ti0 ty = some i ∧ ti0 i.elem = some j ∧ j.size = sz ∧ j.cty = cty) (hp : Pk L (.own y ty (.ro m cb)) L2) (hf : cb.all isSc = true) : Src H L sz cty y m cb L := fun I h => by
 obtain ⟨i, j, e1, e2, rfl, rfl⟩ := hty
 obtain ⟨J, R, ⟨_, _, h1⟩, h2, h3⟩ := hp.sepI h
 rcases own_raw e1 e2 h1 with ⟨rfl, rfl, rfl, rfl⟩ | ⟨id, off, raw, J', b, rfl, rfl, hb, hlv, ha, h4, h5⟩
 ·exact ⟨[], [], I, [], rfl, rfl, rfl, by simp, by simp [ownL], h, by simp⟩
 ·have hl := (rd_live h4).1
  have key : ∀ {ts : List Nat} {xs cells : List AV} {I : List Nat}, ownL (ownT ti0 E0.tp H 5) ts xs = some (cells, I) → cells.all isSc = true → xs = cells ∧ I = [] := by
   intro ts xs
   induction xs generalizing ts with
   | nil =>
    intro cells I h _
    obtain ⟨_, e⟩ := ownL_nil h
    cases e
    exact ⟨rfl, rfl⟩
   | cons x xs ih =>
    intro cells I h hs
    cases ts with
    | nil => simp [ownL] at h
    | cons t ts =>
     obtain ⟨a, b, h1, h2, e⟩ := ownL_cons h
     cases e
     rw [List.all_cons, Bool.and_eq_true] at hs
     obtain ⟨rfl, e2⟩ := ih h2 hs.2
     have hx : x = a.1 ∧ a.2 = [] := by
      obtain ⟨a1, a2⟩ := a
      cases a1 with
      | sc v =>
       have := own_sc h1
       subst this
       have : (AV.sc v, ([] : List Nat)) = (.sc v, a2) := Option.some.inj h1
       cases this
       exact ⟨rfl, rfl⟩
      | _ => simp [isSc] at hs
     refine ⟨by rw [hx.1], by rw [hx.2, e2]; rfl⟩
  obtain ⟨rfl, rfl⟩ := key h5 hf
  refine ⟨raw, [], I, [], rfl, ?_, isSc_leaf hf, hl, h5, h, by simp⟩
  show (if j.size = j.size then rdCells H id off (m * j.size) else none) = _
  rw [if_pos rfl, h4]
theorem g_appX {sz bytes k m ty : Nat} {cty : List Nat} {x y : AV} {ca cb : List AV} (hs : Sep H L) (hty : ∃ i j, ti0 ty = some i ∧ ti0 i.elem = some j ∧ j.size = sz ∧ j.cty = cty) (hx : Pk L (.own x ty (.ro k ca)) L1) (hy : Src H L1 sz cty y m cb L2) (hok : okLW (okW ti0 E0.tp 5) (List.replicate m cty).flatten cb) (hb : (k + m) * bytes ≤ 140737488355328)
  (h : ∀ x' H', isLeaf x' = true → Sep H' (.own x' ty (.ro (k + m) (ca ++ cb)) :: L2) → (∃ id cx cy, x' = .sl id 0 (k + m) sz ∧ H'[id]? = some ⟨cx ++ cy, true, true⟩ ∧ content H sz y = some cy ∧ cx.length = k * sz) → Gd G (KH x' H')) : Gd G (pApp sz bytes x y H fun x H => KH x H) := by
 obtain ⟨i, j, e1, e2, rfl, rfl⟩ := hty
 obtain ⟨I, hI, hn⟩ := hs
 obtain ⟨J, R, ⟨hlx, hox, h1⟩, h2, h3⟩ := hx.sepI hI
 obtain ⟨raw, Jy, Ry, X, q1, q2, q3, q4, q5, q6, q7⟩ := hy R h2
 have hn' : (J ++ (Jy ++ (Ry ++ X))).Nodup := (h3.trans (List.Perm.append_left J q7)).nodup_iff.1 hn
 have hRlt : ∀ i ∈ Jy ++ Ry, i < H.length := fun z hz => by
  refine h2.lt z ?_
  refine q7.symm.mem_iff.1 ?_
  rw [← List.append_assoc]
  exact List.mem_append_left _ hz
 have hok' : okW ti0 E0.tp 6 ty (.ro (k + m) (ca ++ cb)) := by
  obtain ⟨i', j', g1, g2, g3, g4⟩ := hox
  rw [e1] at g1
  cases g1
  rw [e2] at g2
  cases g2
  refine ⟨i, j, e1, e2, ?_, ?_⟩
  ·have := okLW_len hok
   have hq := ownL_len q5
   rw [List.length_append, g3, hq.2, q4, Nat.add_mul]
  ·rw [← List.replicate_append_replicate, List.flatten_append]
   exact okLW_append g4 hok
 have fin : ∀ (H1 : Heap) (cx : List AV) (Jx : List Nat), H1.length = H.length → cx.all isLeaf = true ∨ True → ownL (ownT ti0 E0.tp H1 5) (List.replicate k j.cty).flatten cx = some (ca, Jx) → ownL (ownT ti0 E0.tp H1 5) (List.replicate m j.cty).flatten raw = some (cb, Jy) → SepI H1 L2 Ry → (Jx ++ (Jy ++ (Ry ++ X))).Nodup → (∀ i ∈ Jx, i < H1.length) → cx.length = k * j.size →
   Sep (H1 ++ [⟨cx ++ raw, true, true⟩]) (.own (.sl H1.length 0 (k + m) j.size) ty (.ro (k + m) (ca ++ cb)) :: L2) := by
  intro H1 cx Jx hl1 _ a1 a2 a3 a4 a5 a6
  have hg : (H1 ++ [(⟨cx ++ raw, true, true⟩ : Blk)])[H1.length]? = some ⟨cx ++ raw, true, true⟩ := by
   rw [List.getElem?_append_right (Nat.le_refl _), Nat.sub_self]
   rfl
  have fr : ∀ z, z < H1.length → (H1 ++ [(⟨cx ++ raw, true, true⟩ : Blk)])[z]? = H1[z]? := fun z hz => List.getElem?_append_left hz
  have b1 := ownL_frame (f' := ownT ti0 E0.tp (H1 ++ [⟨cx ++ raw, true, true⟩]) 5) (fun t x a h hi => own_frame 5 t x a h fun z hz => fr z (a5 z (hi z hz))) a1
  have b2 := ownL_frame (f' := ownT ti0 E0.tp (H1 ++ [⟨cx ++ raw, true, true⟩]) 5) (fun t x a h hi => own_frame 5 t x a h fun z hz => fr z (by rw [hl1]; exact hRlt z (List.mem_append_left _ (hi z hz)))) a2
  have b3 := a3.grow [⟨cx ++ raw, true, true⟩]
  have b4 := ownL_append b1 b2
  rw [← List.flatten_append, List.replicate_append_replicate] at b4
  refine ⟨(H1.length :: (Jx ++ Jy)) ++ Ry, ⟨H1.length :: (Jx ++ Jy), Ry, rfl, ⟨rfl, hok', ?_⟩, b3⟩, ?_⟩
  ·rw [ownT_sl]
   have ha : isApp (H1 ++ [⟨cx ++ raw, true, true⟩]) H1.length = true := by simp only [isApp, hg]
   have hrd : rdCells (H1 ++ [⟨cx ++ raw, true, true⟩]) H1.length 0 ((k + m) * j.size) = some (cx ++ raw) := by
    have : (cx ++ raw).length = (k + m) * j.size := by rw [List.length_append, a6, q4, Nat.add_mul]
    simp only [rdCells, hg, if_true, Nat.zero_add, List.drop_zero, ← this, Nat.le_refl, List.take_length]
   simp only [e1, e2, Option.bind_some, if_true, ha, hrd, b4]
  ·rw [List.cons_append, List.nodup_cons]
   have hn3 : (Jx ++ Jy ++ Ry).Nodup := by
    rw [List.append_assoc]
    have : (Jx ++ (Jy ++ Ry) ++ X).Nodup := by simpa only [List.append_assoc] using a4
    exact (List.nodup_append.1 this).1
   refine ⟨fun hm => ?_, hn3⟩
   rcases List.mem_append.1 hm with hm | hm
   ·rcases List.mem_append.1 hm with hm | hm
    ·exact Nat.lt_irrefl _ (a5 _ hm)
    ·have := hRlt _ (List.mem_append_left _ hm)
     omega
   ·have := hRlt _ (List.mem_append_right _ hm)
    omega
 rcases own_raw e1 e2 h1 with ⟨rfl, rfl, rfl, rfl⟩ | ⟨id, off, cx, J', b, rfl, rfl, hb1, hlv, hap, h4, h5⟩
 ·have hc : content H j.size .nl = some [] := rfl
  refine g_congr (b := KH (.sl H.length 0 (0 + m) j.size) (H ++ [⟨[] ++ raw, true, true⟩])) ?_ (h _ _ rfl (fin H [] [] rfl (.inr trivial) (by simp [ownL]) q5 q6 (by simpa using hn') (by simp) (by simp)) ⟨_, [], raw, rfl, by rw [List.getElem?_append_right (Nat.le_refl _), Nat.sub_self]; rfl, q2, by simp⟩)
  have hl0 : lenA .nl = some 0 := rfl
  have hk0 : kill H .nl = some H := rfl
  simp only [pApp, hl0, Option.bind_some, q1, q2, hc, hk0]
  rw [if_pos hb, if_pos q3]
  rfl
 ·have hc : content H j.size (.sl id off k j.size) = some cx := by
   show (if j.size = j.size then rdCells H id off (k * j.size) else none) = _
   rw [if_pos rfl, h4]
  have hk : kill H (.sl id off k j.size) = some (H.set id { b with live := false }) := by
   show (H[id]?).bind (fun b => if b.app then some (H.set id { b with live := false }) else none) = _
   rw [hb1, Option.bind_some, if_pos hap]
  have hn2 : (id :: (J' ++ (Jy ++ (Ry ++ X)))).Nodup := hn'
  have hnid := (List.nodup_cons.1 hn2).1
  have hset : ∀ z, z ≠ id → (H.set id { b with live := false })[z]? = H[z]? := fun z hz => List.getElem?_set_ne (fun e => hz e.symm)
  have c1 := ownL_frame (f' := ownT ti0 E0.tp (H.set id { b with live := false }) 5) (fun t x a h hi => own_frame 5 t x a h fun z hz => hset z (fun e => hnid (e ▸ List.mem_append_left _ (hi z hz)))) h5
  have c2 := ownL_frame (f' := ownT ti0 E0.tp (H.set id { b with live := false }) 5) (fun t x a h hi => own_frame 5 t x a h fun z hz => hset z (fun e => hnid (e ▸ List.mem_append_right _ (List.mem_append_left _ (hi z hz))))) q5
  have c3 := q6.frame (H' := H.set id { b with live := false }) fun z hz => hset z (fun e => hnid (e ▸ List.mem_append_right _ (List.mem_append_right _ (List.mem_append_left _ hz))))
  have hJlt : ∀ z ∈ J', z < H.length := fun z hz => own_lt 6 ty _ _ h1 z (List.mem_cons_of_mem _ hz)
  refine g_congr (b := KH (.sl (H.set id { b with live := false }).length 0 (k + m) j.size) (H.set id { b with live := false } ++ [⟨cx ++ raw, true, true⟩])) ?_ (h _ _ rfl (fin _ cx J' (by simp) (.inr trivial) c1 c2 c3 (List.nodup_cons.1 hn2).2 (fun z hz => by rw [List.length_set]; exact hJlt z hz) (rd_live h4).1) ⟨_, cx, raw, rfl, by rw [List.getElem?_append_right (Nat.le_refl _), Nat.sub_self]; rfl, q2, (rd_live h4).1⟩)
  have hl0 : lenA (.sl id off k j.size) = some k := rfl
  simp only [pApp, hl0, Option.bind_some, q1, q2, hc, hk]
  rw [if_pos hb, if_pos q3]
  rfl
theorem g_app {sz bytes k m ty : Nat} {cty : List Nat} {x y : AV} {ca cb : List AV} (hs : Sep H L) (hty : ∃ i j, ti0 ty = some i ∧ ti0 i.elem = some j ∧ j.size = sz ∧ j.cty = cty) (hx : Pk L (.own x ty (.ro k ca)) L1) (hy : Src H L1 sz cty y m cb L2) (hok : okLW (okW ti0 E0.tp 5) (List.replicate m cty).flatten cb) (hb : (k + m) * bytes ≤ 140737488355328)
  (h : ∀ x' H', isLeaf x' = true → Sep H' (.own x' ty (.ro (k + m) (ca ++ cb)) :: L2) → Gd G (KH x' H')) : Gd G (pApp sz bytes x y H fun x H => KH x H) := g_appX hs hty hx hy hok hb fun x' H' h1 h2 _ => h x' H' h1 h2
theorem tree_gd {G : Option AV → Prop} {o : Option AV} (h : Gd G o) : G o := h
theorem ret_tup {ty : Nat} {tys : List Nat} {raw cells : List AV} (hs : Sep H L) (hts : E0.tp ty = some tys) (hr : OwnR L raw tys cells L') (hok : okLW (okW ti0 E0.tp 7) tys cells) : ownTree ti0 E0.tp ty H (.tup raw) = some (.tup cells) := by
 obtain ⟨I, h1, h2⟩ := hs
 obtain ⟨J, R, g1, g2, g3⟩ := hr.sound h1 7 hok
 have hn := (List.nodup_append.1 (g3.nodup_iff.1 h2)).1
 rw [ownTree, ownT_tup, hts, Option.bind_some, g1, Option.bind_some, Option.bind_some, if_pos hn]
theorem ret_agg {ty : Nat} {cty : List Nat} {raw cells : List AV} (hs : Sep H L) (hty : ∃ i, ti0 ty = some i ∧ i.cty = cty) (hr : OwnR L raw cty cells L') (hok : okLW (okW ti0 E0.tp 7) cty cells) : ownTree ti0 E0.tp ty H (.agg raw) = some (.agg cells) := by
 obtain ⟨i, e1, rfl⟩ := hty
 obtain ⟨I, h1, h2⟩ := hs
 obtain ⟨J, R, g1, g2, g3⟩ := hr.sound h1 7 hok
 have hn := (List.nodup_append.1 (g3.nodup_iff.1 h2)).1
 rw [ownTree, ownT_agg, e1, Option.bind_some, g1, Option.bind_some, Option.bind_some, if_pos hn]
theorem ret_own {ty : Nat} {x t : AV} (hs : Sep H L) (hp : Pk L (.own x ty t) L') : ownTree ti0 E0.tp ty H x = some t := by
 obtain ⟨_, h1, I, h2, h3⟩ := hs.own hp
 rw [ownTree, own_dep 6 8 ty x t I h2 (okW_le h1 (by decide)), Option.bind_some, if_pos h3]
theorem g_ret {G : Option AV → Prop} {ty : Nat} {x t : AV} (e : ownTree ti0 E0.tp ty H x = some t) (h : G (some t)) : Gd G (ownTree ti0 E0.tp ty H x) := by
 rw [e]
 exact h
end
end Go.Proofs.YtdameggfgnpehaaGreatDoor.Abs
set_option linter.unusedVariables false
set_option maxRecDepth 100000
namespace Go.Proofs.YtdameggfgnpehaaGreatDoor.Abs
open Go
variable {β : Type}
theorem okAg {d ty : Nat} {cty : List Nat} {cs : List AV} (hty : ∃ i, ti0 ty = some i ∧ i.cty = cty) (h : okLW (okW ti0 E0.tp d) cty cs) : okW ti0 E0.tp (d + 1) ty (.agg cs) := by
 obtain ⟨i, hi, rfl⟩ := hty
 exact ⟨i, hi, h⟩
theorem okNl {d ty : Nat} (h : ∃ i j, ti0 ty = some i ∧ ti0 i.elem = some j) : okW ti0 E0.tp (d + 1) ty (.ro 0 []) := by
 obtain ⟨i, j, h1, h2⟩ := h
 exact ⟨i, j, h1, h2, by simp, by simp [okLW]⟩
theorem Gd.both {G : Option β → Prop} {a b : Option β} (h1 : Gd G a) (h2 : a = b) : Gd G (pBoth a b) := by
 rw [pBoth_eq rfl h2.symm]
 exact h1
theorem g_neg {G : Option β → Prop} {K : AV → Option β} {a : Int} (h0 : -9223372036854775808 ≤ -a) (h1 : -a ≤ 9223372036854775807) (h : Gd G (K (.sc (.int .i64 (-a))))) : Gd G (pUn .neg (.sc (.int .i64 a)) fun t => K t) := by
 refine g_congr ?_ h
 show K (.sc (.int .i64 (IntKind.i64.wrap (0 - a)))) = _
 rw [wrap64 _ (by omega) (by omega), Int.zero_sub]
theorem okB6 (s : ByteArray) : okW ti0 E0.tp 6 43 (bytesC s) := okW_bytes (d := 4) tyByteS s
theorem okB5 (s : ByteArray) : okW ti0 E0.tp 5 43 (bytesC s) := okW_bytes (d := 3) tyByteS s
theorem okI6 (l : List Int) : okW ti0 E0.tp 6 26 (intsC l) := okW_flat (d := 4) (fun z : Int => .int .i64 z) tyIntS l
theorem okI5 (l : List Int) : okW ti0 E0.tp 5 26 (intsC l) := okW_flat (d := 3) (fun z : Int => .int .i64 z) tyIntS l
theorem okS6 (l : List ByteArray) : okW ti0 E0.tp 6 73 (strsC l) := okW_flat (d := 4) (fun z : ByteArray => .string z) tyStringS l
theorem okS5 (l : List ByteArray) : okW ti0 E0.tp 5 73 (strsC l) := okW_flat (d := 3) (fun z : ByteArray => .string z) tyStringS l
theorem okRMsg (l : List MsgV) : okW ti0 E0.tp 6 31 (rowsC encMsg l) := okW_rows (d := 5) lenMsg ⟨_, _, rfl, rfl, rfl, rfl⟩ (okWMsg 3) l
theorem okR5Msg (l : List MsgV) : okW ti0 E0.tp 5 31 (rowsC encMsg l) := okW_rows (d := 4) lenMsg ⟨_, _, rfl, rfl, rfl, rfl⟩ (okWMsg 2) l
theorem okRFlight (l : List FlightV) : okW ti0 E0.tp 6 30 (rowsC encFlight l) := okW_rows (d := 5) lenFlight ⟨_, _, rfl, rfl, rfl, rfl⟩ (okWFlight 3) l
theorem okR5Flight (l : List FlightV) : okW ti0 E0.tp 5 30 (rowsC encFlight l) := okW_rows (d := 4) lenFlight ⟨_, _, rfl, rfl, rfl, rfl⟩ (okWFlight 2) l
theorem okRWant (l : List WantV) : okW ti0 E0.tp 6 72 (rowsC encWant l) := okW_rows (d := 5) lenWant ⟨_, _, rfl, rfl, rfl, rfl⟩ (okWWant 4) l
theorem okR5Want (l : List WantV) : okW ti0 E0.tp 5 72 (rowsC encWant l) := okW_rows (d := 4) lenWant ⟨_, _, rfl, rfl, rfl, rfl⟩ (okWWant 3) l
end Go.Proofs.YtdameggfgnpehaaGreatDoor.Abs
set_option linter.unusedVariables false
set_option linter.unusedSimpArgs false
namespace Go.Proofs.YtdameggfgnpehaaGreatDoor.Abs
open Go
inductive Sel : List Ck → List Ck → Prop
 | nil {L : List Ck} : Sel L []
 | cons {L L1 L' : List Ck} {c : Ck} : Pk L c L1 → Sel L1 L' → Sel L (c :: L')
 | rest {L : List Ck} : Sel L L
section
variable {β : Type} {n : Nat} {H : Heap} {L L' L1 L2 : List Ck} {G : Option β → Prop} {K : AV → Option β} {KH : AV → Heap → Option β}
theorem Sep.none (h : Sep H L) : Sep H [] := by
 induction L with
 | nil => exact h
 | cons c L ih => exact ih h.tail
theorem SepI.cons_iff {c : Ck} {I : List Nat} : SepI H (c :: L) I ↔ ∃ J R, I = J ++ R ∧ CkOk H c J ∧ SepI H L R := Iff.rfl
theorem Sel.sepI : ∀ {L L' : List Ck} {I : List Nat}, Sel L L' → SepI H L I → ∃ J X, SepI H L' J ∧ I.Perm (J ++ X)
 | _, _, I, .nil, h => ⟨[], I, rfl, List.Perm.refl _⟩
 | _, _, I, .rest, h => ⟨I, [], h, by simp⟩
 | _, _, I, .cons p q, h => by
  obtain ⟨J, R, g1, g2, g3⟩ := p.sepI h
  obtain ⟨J', X, e1, e2⟩ := q.sepI g2
  refine ⟨J ++ J', X, ⟨J, J', rfl, g1, e1⟩, ?_⟩
  rw [List.append_assoc]
  exact g3.trans (List.Perm.append_left J e2)
theorem Sep.sel (h : Sep H L) (q : Sel L L') : Sep H L' := by
 obtain ⟨I, h1, h2⟩ := h
 obtain ⟨J, X, g1, g2⟩ := q.sepI h1
 exact ⟨J, g1, (List.nodup_append.1 (g2.nodup_iff.1 h2)).1⟩
theorem g_apart {x off : Nat} {ts : List AV} {cs : List AV} {a : Bool} {m : Option β} (hs : Sep H L) (hp : Pk L (.blk x cs a) L1) (ht : ∀ y ∈ ts, ∃ j o ds b, y = .ptr j o ∧ ∃ L2, Pk L1 (.blk j ds b) L2) (h : Gd G m) : Gd G (pApart (.ptr x off) ts H m) := by
 have e : apartB (.ptr x off) ts H = true := by
  have hb := hs.blk hp
  simp only [apartB, hb, Bool.true_and, List.all_eq_true]
  intro y hy
  obtain ⟨j, o, ds, b, rfl, L2, hq⟩ := ht y hy
  obtain ⟨I, ⟨J, R, rfl, ⟨rfl, h1⟩, h2⟩, h3⟩ := hs.pick hp
  obtain ⟨J', R', ⟨rfl, g1⟩, g2, g3⟩ := hq.sepI h2
  have hne : x ≠ j := by
   rintro rfl
   have hn := (List.nodup_cons.1 h3).1
   exact hn (g3.symm.mem_iff.1 (by simp))
  simp [g1, hne]
 unfold pApart
 rw [if_pos e]
 exact h
theorem g_same {x o o' : Nat} {m : Option β} (h : Gd G m) : Gd G (pSame (.ptr x o) (.ptr x o') m) := by
 simp only [pSame, if_true]
 exact h
theorem g_iadr {α : Type} {w : Nat} {enc : α → List AV} {l pre t : List α} {x : α} {i : Int} (hi : i = (pre.length : Nat)) (hw : ∀ x, (enc x).length = w) (h0 : 0 < w) (hl : l = pre ++ x :: t) (h : Gd G (K (.rp (enc x ++ (t.map enc).flatten)))) : Gd G (pIadr w (rowsC enc l) (.sc (.int .i64 i)) fun t => K t) := by
 subst hl
 subst hi
 exact g_congr (el_ro hw h0 pre x t _) h
theorem g_iadrN {α : Type} {w : Nat} {enc : α → List AV} {l : List α} {i : Int} (hw : ∀ x, (enc x).length = w) (h0 : 0 < w) (hi : 0 ≤ i) (hl : i < (l.length : Nat)) (h : ∀ x rest, l[i.toNat]? = some x → Gd G (K (.rp (enc x ++ rest)))) : Gd G (pIadr w (rowsC enc l) (.sc (.int .i64 i)) fun t => K t) := by
 have hlt : i.toNat < l.length := by omega
 refine g_iadr (pre := l.take i.toNat) (x := l[i.toNat]) (t := l.drop (i.toNat + 1)) (by simp; omega) hw h0 ?_ (h _ _ (List.getElem?_eq_getElem hlt))
 rw [← List.drop_eq_getElem_cons hlt, List.take_append_drop]
theorem ints_iadr {l pre t : List Int} {x i : Int} (hi : i = (pre.length : Nat)) (hl : l = pre ++ x :: t) (h : Gd G (K (.rp (encI x ++ (t.map encI).flatten)))) : Gd G (pIadr 1 (intsC l) (.sc (.int .i64 i)) fun t => K t) := by
 rw [ints_rows]
 exact g_iadr hi (fun _ => rfl) (by decide) hl h
theorem strs_iadr {l pre t : List ByteArray} {x : ByteArray} {i : Int} (hi : i = (pre.length : Nat)) (hl : l = pre ++ x :: t) (h : Gd G (K (.rp (encS x ++ (t.map encS).flatten)))) : Gd G (pIadr 1 (strsC l) (.sc (.int .i64 i)) fun t => K t) := by
 rw [strs_rows]
 exact g_iadr hi (fun _ => rfl) (by decide) hl h
def bAt (s : ByteArray) (i : Int) : Int := ((s.data.toList.getD i.toNat 0).toNat : Nat)
theorem bAt_range (s : ByteArray) (i : Int) : 0 ≤ bAt s i ∧ bAt s i < 256 := by
 have := (s.data.toList.getD i.toNat 0).toNat_lt
 unfold bAt
 omega
theorem g_iadrB {s : ByteArray} {i : Int} (h0 : 0 ≤ i) (h1 : i < (s.size : Nat)) (h : ∀ rest, Gd G (K (.rp (.sc (.int .u8 (bAt s i)) :: rest)))) : Gd G (pIadr 1 (bytesC s) (.sc (.int .i64 i)) fun t => K t) := by
 have hlt : i.toNat < s.size := by omega
 have e : (bytesAV s).drop (i.toNat * 1) = .sc (.int .u8 (bAt s i)) :: (bytesAV s).drop (i.toNat + 1) := by
  rw [Nat.mul_one, List.drop_eq_getElem_cons (by rw [bytesAV_len]; omega)]
  congr 1
  simp [bytesAV, bAt, List.getD_eq_getElem?_getD, hlt]
 have e2 : (.sc (.int .i64 i) : AV) = .sc (.int .i64 (i.toNat : Nat)) := by
  rw [Int.toNat_of_nonneg h0]
 rw [e2]
 refine g_congr (iadr_ro 1 s.size (bytesAV s) i.toNat _ hlt (by rw [bytesAV_len]; omega)) ?_
 rw [e]
 exact h _
theorem rows_app {α : Type} {enc : α → List AV} (l q : List α) : rowsC enc (l ++ q) = .ro (l.length + q.length) ((l.map enc).flatten ++ (q.map enc).flatten) := by
 show AV.ro _ _ = _
 rw [List.length_append, List.map_append, List.flatten_append]
theorem g_appR {α : Type} {enc : α → List AV} {sz bytes ty : Nat} {cty : List Nat} {x : AV} {l : List α} {i : Nat} {raw cb : List AV} {a : Bool} {e : α} {L3 : List Ck} (hs : Sep H L) (hty : ∃ i j, ti0 ty = some i ∧ ti0 i.elem = some j ∧ j.size = sz ∧ j.cty = cty) (hx : Pk L (.own x ty (rowsC enc l)) L1) (hp : Pk L1 (.blk i raw a) L2) (hl : raw.length = sz) (hf : raw.all isLeaf = true) (hr : OwnR L2 raw cty cb L3) (hok : okLW (okW ti0 E0.tp 5) cty cb) (he : cb = enc e) (hb : (l.length + 1) * bytes ≤ 140737488355328)
  (h : ∀ x' H', isLeaf x' = true → Sep H' (.own x' ty (rowsC enc (l ++ [e])) :: L3) → Gd G (KH x' H')) : Gd G (pApp sz bytes x (.sl i 0 1 sz) H fun x H => KH x H) := by
 have e1 : (List.replicate 1 cty).flatten = cty := by simp
 refine g_app hs hty hx (src_blk hp (by omega) hf (by rw [e1]; exact hr) (by rw [e1]; exact hok)) (by rw [e1]; exact hok) hb fun x' H' lx hs' => h x' H' lx ?_
 rw [rows_app]
 simpa [he] using hs'
theorem g_appI1 {ty : Nat} {cty : List Nat} {x : AV} {l : List Int} {i : Nat} {z : Int} {a : Bool} (hs : Sep H L) (hx : Pk L (.own x ty (intsC l)) L1) (hp : Pk L1 (.blk i [.sc (.int .i64 z)] a) L2) (hty : ∃ i j, ti0 ty = some i ∧ ti0 i.elem = some j ∧ j.size = 1 ∧ j.cty = cty) (hc : cty.length = 1) (hb : (l.length + 1) * 8 ≤ 140737488355328)
  (h : ∀ x' H', isLeaf x' = true → Sep H' (.own x' ty (intsC (l ++ [z])) :: L2) → Gd G (KH x' H')) : Gd G (pApp 1 8 x (.sl i 0 1 1) H fun x H => KH x H) := by
 obtain ⟨c, rfl⟩ := List.length_eq_one_iff.1 hc
 rw [ints_rows] at hx h
 exact g_appR hs hty hx hp rfl rfl (.sc .nil) ⟨trivial, trivial⟩ rfl hb h
theorem g_appS1 {ty : Nat} {cty : List Nat} {x : AV} {l : List ByteArray} {i : Nat} {z : ByteArray} {a : Bool} (hs : Sep H L) (hx : Pk L (.own x ty (strsC l)) L1) (hp : Pk L1 (.blk i [.sc (.string z)] a) L2) (hty : ∃ i j, ti0 ty = some i ∧ ti0 i.elem = some j ∧ j.size = 1 ∧ j.cty = cty) (hc : cty.length = 1) (hb : (l.length + 1) * 16 ≤ 140737488355328)
  (h : ∀ x' H', isLeaf x' = true → Sep H' (.own x' ty (strsC (l ++ [z])) :: L2) → Gd G (KH x' H')) : Gd G (pApp 1 16 x (.sl i 0 1 1) H fun x H => KH x H) := by
 obtain ⟨c, rfl⟩ := List.length_eq_one_iff.1 hc
 rw [strs_rows] at hx h
 exact g_appR hs hty hx hp rfl rfl (.sc .nil) ⟨trivial, trivial⟩ rfl hb h
theorem ownL_at {f : Nat → AV → Option (AV × List Nat)} : ∀ {ts : List Nat} {xs cells : List AV} {I : List Nat} {k ty : Nat} {y t : AV}, ownL f ts xs = some (cells, I) → xs[k]? = some y → ts[k]? = some ty → cells[k]? = some t → ∃ J, f ty y = some (t, J) ∧ ∀ i ∈ J, i ∈ I
 | ts, [], cells, I, k, ty, y, t, h, hy, _, _ => by simp at hy
 | [], _ :: _, _, _, _, _, _, _, h, _, _, _ => by simp [ownL] at h
 | t0 :: ts, x :: xs, cells, I, k, ty, y, t, h, hy, ht, hc => by
  obtain ⟨a, b, h1, h2, e⟩ := ownL_cons h
  cases e
  cases k with
  | zero =>
   simp only [List.getElem?_cons_zero, Option.some.injEq] at hy ht hc
   subst hy
   subst ht
   subst hc
   exact ⟨a.2, h1, fun i hi => List.mem_append_left _ hi⟩
  | succ k =>
   obtain ⟨J, g1, g2⟩ := ownL_at (cells := b.1) (I := b.2) h2 (by simpa using hy) (by simpa using ht) (by simpa using hc)
   exact ⟨J, g1, fun i hi => List.mem_append_right _ (g2 i hi)⟩
theorem g_appRK {α : Type} {enc : α → List AV} {sz bytes ty : Nat} {cty : List Nat} {x : AV} {l : List α} {i k ty' : Nat} {y t' : AV} {raw cb : List AV} {a : Bool} {e : α} {L3 : List Ck} (hs : Sep H L) (hty : ∃ i j, ti0 ty = some i ∧ ti0 i.elem = some j ∧ j.size = sz ∧ j.cty = cty) (hx : Pk L (.own x ty (rowsC enc l)) L1) (hp : Pk L1 (.blk i raw a) L2) (hl : raw.length = sz) (hf : raw.all isLeaf = true) (hr : OwnR L2 raw cty cb L3) (hok : okLW (okW ti0 E0.tp 5) cty cb) (he : cb = enc e) (hb : (l.length + 1) * bytes ≤ 140737488355328)
  (hw : ∀ x, (enc x).length = sz) (hc : cty.length = sz) (hk : raw[k]? = some y) (hk2 : cty[k]? = some ty') (hk3 : cb[k]? = some t') (hok5 : okW ti0 E0.tp 6 ty' t')
  (h : ∀ x' H', isLeaf x' = true → Sep H' (.shr x' ty (rowsC enc (l ++ [e])) y ty' t' :: L3) → Gd G (KH x' H')) : Gd G (pApp sz bytes x (.sl i 0 1 sz) H fun x H => KH x H) := by
 have e1 : (List.replicate 1 cty).flatten = cty := by simp
 have hblk := (hs.pick hx).tail.blk hp
 obtain ⟨ti, tj, t1, t2, t3, t4⟩ := hty
 refine g_appX hs ⟨ti, tj, t1, t2, t3, t4⟩ hx (src_blk hp (by omega) hf (by rw [e1]; exact hr) (by rw [e1]; exact hok)) (by rw [e1]; exact hok) hb fun x' H' lx hs' ⟨id, cx, cy, q1, q2, q3, q4⟩ => h x' H' lx ?_
 have hcy : cy = raw := by
  have : content H sz (.sl i 0 1 sz) = some raw := by
   show (if sz = sz then rdCells H i 0 (1 * sz) else none) = _
   simp only [if_true, rdCells, hblk, Nat.one_mul, Nat.zero_add, List.drop_zero, ← hl, Nat.le_refl, List.take_length]
  rw [this] at q3
  exact (Option.some.inj q3).symm
 subst hcy
 obtain ⟨I, ⟨J, R, rfl, ⟨h0, h1, h2⟩, h3⟩, h4⟩ := hs'
 have hrow : AV.ro (l.length + 1) ((l.map enc).flatten ++ cb) = rowsC enc (l ++ [e]) := by
  rw [rows_app]
  simp [he]
 rw [hrow] at h1 h2
 refine ⟨J ++ R, ⟨J, R, rfl, ⟨⟨h0, h1, h2⟩, hok5, ?_⟩, h3⟩, h4⟩
 rw [← hrow] at h2
 rcases own_raw t1 t2 h2 with ⟨rfl, _⟩ | ⟨id', off, raw', J', b, p1, p2, p3, p4, p5, p6, p7⟩
 ·cases q1
 ·rw [q1] at p1
  cases p1
  rw [q2] at p3
  cases p3
  have hraw : raw' = cx ++ cy := by
   have hlen : (cx ++ cy).length = (l.length + 1) * tj.size := by rw [List.length_append, q4, hl, t3, Nat.add_mul, Nat.one_mul]
   simp only [rdCells, q2, if_true, Nat.zero_add, List.drop_zero] at p6
   rw [if_pos (by rw [hlen]; exact Nat.le_refl _), ← hlen, List.take_length] at p6
   exact (Option.some.inj p6).symm
  subst hraw
  have hlk : k < cy.length := (List.getElem?_eq_some_iff.1 hk).1
  obtain ⟨J2, g1, g2⟩ := ownL_at (k := l.length * tj.size + k) (ty := ty') (y := y) (t := t') p7 (by
   rw [List.getElem?_append_right (by omega), q4, Nat.add_sub_cancel_left]
   exact hk) (by
   rw [List.replicate_succ', List.flatten_append, List.getElem?_append_right (by simp [t4, hc])]
   simp [t4, hc, hk2]) (by
   have hlr := rows_len hw l
   rw [List.getElem?_append_right (by omega), hlr, Nat.add_sub_cancel_left]
   exact hk3)
  exact ⟨J2, own_dep 5 6 ty' y t' J2 g1 hok5, fun z hz => by rw [p2]; exact List.mem_cons_of_mem _ (g2 z hz)⟩
theorem g_appS {α : Type} {enc : α → List AV} {sz bytes ty : Nat} {cty : List Nat} {x y : AV} {l q : List α} (hs : Sep H L) (hty : ∃ i j, ti0 ty = some i ∧ ti0 i.elem = some j ∧ j.size = sz ∧ j.cty = cty) (hx : Pk L (.own x ty (rowsC enc l)) L1) (hy : Src H L1 sz cty y q.length (q.map enc).flatten L2) (hok : okLW (okW ti0 E0.tp 5) (List.replicate q.length cty).flatten (q.map enc).flatten) (hb : (l.length + q.length) * bytes ≤ 140737488355328)
  (h : ∀ x' H', isLeaf x' = true → Sep H' (.own x' ty (rowsC enc (l ++ q)) :: L2) → Gd G (KH x' H')) : Gd G (pApp sz bytes x y H fun x H => KH x H) := by
 refine g_app hs hty hx hy hok hb fun x' H' lx hs' => h x' H' lx ?_
 rw [rows_app]
 exact hs'
theorem g_appN {sz bytes m ty : Nat} {cty : List Nat} {y : AV} {cb : List AV} (hs : Sep H L) (hty : ∃ i j, ti0 ty = some i ∧ ti0 i.elem = some j ∧ j.size = sz ∧ j.cty = cty) (hy : Src H L sz cty y m cb L2) (hok : okLW (okW ti0 E0.tp 5) (List.replicate m cty).flatten cb) (hb : m * bytes ≤ 140737488355328)
  (h : ∀ x' H', isLeaf x' = true → Sep H' (.own x' ty (.ro m cb) :: L2) → Gd G (KH x' H')) : Gd G (pApp sz bytes .nl y H fun x H => KH x H) := by
 obtain ⟨i, j, e1, e2, e3, e4⟩ := hty
 refine g_app (hs.nl (ty := ty) ⟨i, j, e1, e2⟩) ⟨i, j, e1, e2, e3, e4⟩ .here hy hok (by rw [Nat.zero_add]; exact hb) fun x' H' lx hs' => h x' H' lx ?_
 rw [Nat.zero_add, List.nil_append] at hs'
 exact hs'
theorem okLW_scs {d : Nat} : ∀ {ts : List Nat} {l : List AV}, ts.length = l.length → l.all isSc = true → okLW (okW ti0 E0.tp (d + 1)) ts l
 | [], [], _, _ => trivial
 | t :: ts, x :: l, h, hl => by
  rw [List.all_cons, Bool.and_eq_true] at hl
  refine ⟨?_, okLW_scs (by simpa using h) hl.2⟩
  cases x with
  | sc v => trivial
  | _ => simp [isSc] at hl
 | [], _ :: _, h, _ => by simp at h
 | _ :: _, [], h, _ => by simp at h
theorem sc_bytes (s : ByteArray) : (bytesAV s).all isSc = true := by
 simp only [bytesAV, List.all_map, List.all_eq_true]
 intro b _
 rfl
theorem sc_ints (l : List Int) : (l.map fun z => AV.sc (.int .i64 z)).all isSc = true := by
 simp only [List.all_map, List.all_eq_true]
 intro b _
 rfl
theorem sc_strs (l : List ByteArray) : (l.map fun z => AV.sc (.string z)).all isSc = true := by
 simp only [List.all_map, List.all_eq_true]
 intro b _
 rfl
theorem sc_rows {α : Type} {enc : α → List AV} (hf : ∀ x, (enc x).all isSc = true) (l : List α) : ((l.map enc).flatten).all isSc = true := by
 rw [List.all_flatten, List.all_map, List.all_eq_true]
 intro x _
 exact hf x
theorem len_rep {cty : List Nat} {w m : Nat} (h : cty.length = w) : ((List.replicate m cty).flatten).length = m * w := by simp [h]
theorem g_copyB {s : ByteArray} (hs : Sep H L) (hb : s.size ≤ 140737488355328) (h : ∀ x' H', isLeaf x' = true → Sep H' (.own x' 43 (bytesC s) :: L) → Gd G (KH x' H')) : Gd G (pApp 1 1 .nl (bytesC s) H fun x H => KH x H) :=
 g_appN hs ⟨_, _, rfl, rfl, rfl, rfl⟩ (src_ro rfl (by rw [bytesAV_len]; omega) (sc_bytes s)) (okLW_scs (by rw [len_rep (w := 1) rfl, bytesAV_len, Nat.mul_one]) (sc_bytes s)) (by omega) h
theorem g_copyF {α : Type} {enc : α → List AV} {w bytes ty : Nat} {cty : List Nat} {l : List α} (hs : Sep H L) (hty : ∃ i j, ti0 ty = some i ∧ ti0 i.elem = some j ∧ j.size = w ∧ j.cty = cty) (hc : cty.length = w) (hw : ∀ x, (enc x).length = w) (hf : ∀ x, (enc x).all isSc = true) (hb : l.length * bytes ≤ 140737488355328) (h : ∀ x' H', isLeaf x' = true → Sep H' (.own x' ty (rowsC enc l) :: L) → Gd G (KH x' H')) : Gd G (pApp w bytes .nl (rowsC enc l) H fun x H => KH x H) :=
 g_appN hs hty (src_ro hc (rows_len hw l) (sc_rows hf l)) (okLW_scs (by rw [len_rep hc, rows_len hw]) (sc_rows hf l)) hb h
theorem g_copyI {ty : Nat} {cty : List Nat} {l : List Int} (hs : Sep H L) (hty : ∃ i j, ti0 ty = some i ∧ ti0 i.elem = some j ∧ j.size = 1 ∧ j.cty = cty) (hc : cty.length = 1) (hb : l.length * 8 ≤ 140737488355328) (h : ∀ x' H', isLeaf x' = true → Sep H' (.own x' ty (intsC l) :: L) → Gd G (KH x' H')) : Gd G (pApp 1 8 .nl (intsC l) H fun x H => KH x H) := by
 rw [ints_rows] at h ⊢
 exact g_copyF hs hty hc (fun _ => rfl) (fun _ => rfl) hb h
theorem g_copyS {ty : Nat} {cty : List Nat} {l : List ByteArray} (hs : Sep H L) (hty : ∃ i j, ti0 ty = some i ∧ ti0 i.elem = some j ∧ j.size = 1 ∧ j.cty = cty) (hc : cty.length = 1) (hb : l.length * 16 ≤ 140737488355328) (h : ∀ x' H', isLeaf x' = true → Sep H' (.own x' ty (strsC l) :: L) → Gd G (KH x' H')) : Gd G (pApp 1 16 .nl (strsC l) H fun x H => KH x H) := by
 rw [strs_rows] at h ⊢
 exact g_copyF hs hty hc (fun _ => rfl) (fun _ => rfl) hb h
end
end Go.Proofs.YtdameggfgnpehaaGreatDoor.Abs
set_option linter.unusedVariables false
set_option linter.unusedSimpArgs false
set_option maxRecDepth 100000
namespace Go.Proofs.YtdameggfgnpehaaGreatDoor.Abs
open Go
theorem hasS_loop (n : Nat) (u : List Int) (hu : u.length ≤ 1048576) (z : Int) (k : AV → Heap → Option AV) : ∀ (t pre : List Int) (m : Nat) (i : Int) (H : Heap), u = pre ++ t → i = ((pre.length : Nat) : Int) → t.length < m → f153_l0 (PR n AV) n k m (intsC u) (.sc (.int .i64 z)) (.sc (.int .i64 i)) H = k (.sc (.bool (t.contains z))) H
 | [], pre, m + 1, i, H, he, hi, hm => by
  rw [List.append_nil] at he
  subst he
  rw [f153_l0]
  simp only [PR_len, PR_bin, PR_cond]
  refine w_len ?_
  refine w_bin (v := .sc (.bool (decide (i < (u.length : Nat))))) (fun k => rfl) ?_
  refine w_cF (by simp [hi]) ?_
  rfl
 | y :: t, pre, m + 1, i, H, he, hi, hm => by
  have hlt : pre.length < u.length := by rw [he]; simp
  rw [f153_l0]
  simp only [PR_len, PR_bin, PR_cond, PR_iadr, PR_load]
  refine w_len ?_
  refine w_bin (v := .sc (.bool (decide (i < (u.length : Nat))))) (fun k => rfl) ?_
  refine w_cT (by simp [hi]; omega) ?_
  refine (show Gd (· = k (.sc (.bool ((y :: t).contains z))) H) _ from ?_)
  refine ints_iadr hi he ?_
  refine g_ldR (c := .sc (.int .i64 y)) rfl ?_
  refine g_eql ?_
  by_cases hy : y = z
  ·refine g_cT (by simpa using hy) ?_
   show k _ H = k _ H
   simp [hy]
  ·refine g_cF (by simpa using hy) ?_
   refine g_add (by omega) (by omega) ?_
   have ih := hasS_loop n u hu z k t (pre ++ [y]) m (i + 1) H (by rw [he]; simp) (by rw [hi]; simp) (by simpa using hm)
   refine ih.trans ?_
   have e : (y :: t).contains z = t.contains z := by
    rw [List.contains_cons]
    simp [Ne.symm hy]
   rw [e]
theorem hasSF (n ty : Nat) (hn : 1048576 < n) (u : List Int) (hu : u.length ≤ 1048576) (z : Int) : tree E0 (n + 1) ty 153 [intsC u, .sc (.int .i64 z)] = some (.sc (.bool (u.contains z))) := by
 rw [tree_def, f153_eq, f153]
 exact hasS_loop n u hu z _ u [] n 0 [] rfl rfl (by omega)
theorem nx_of (x : Int) (h0 : 0 ≤ x) (h1 : x ≤ 65535) : nx x = if x + 1 > 65535 then 1 else x + 1 := by
 unfold nx
 split <;> omega
theorem nextS_loop (n : Nat) (hn : 1048576 < n) (u : List Int) (hu : u.length ≤ 1048576) (k : AV → Heap → Option AV) (H : Heap) : ∀ (j m : Nat) (x c : Int), 0 ≤ c → c + j = min ((u.length : Int) + 1) 65535 → j < m → 0 ≤ x → x ≤ 65535 →
  f107_l0 (PR (n + 1) AV) (n + 1) k m (intsC u) (.sc (.int .i64 x)) (.sc (.int .i64 c)) H = k (.tup [.sc (.int .i64 (seek u j x).1), .sc (.bool (seek u j x).2)]) H := by
 intro j
 induction j with
 | zero =>
  intro m x c h0 hc hm hx0 hx1
  obtain ⟨m, rfl⟩ : ∃ m', m = m' + 1 := ⟨m - 1, by omega⟩
  rw [f107_l0]
  simp only [PR_len, PR_bin, PR_cond, PR_guard, PR_pick]
  refine w_len ?_
  refine w_bin (v := .sc (.bool (decide (c ≤ (u.length : Nat))))) (fun k => rfl) ?_
  by_cases hl : c ≤ (u.length : Nat)
  ·refine w_gT (by simpa using hl) ?_
   refine w_gT (by simpa using hl) ?_
   refine w_bin (v := .sc (.bool (decide (c < 65535)))) (fun k => rfl) ?_
   refine w_pT (by simpa using hl) ?_
   refine w_cF (by simp; omega) ?_
   rfl
  ·refine w_gF (by simpa using hl) ?_
   refine w_gF (by simpa using hl) ?_
   refine w_pF (by simpa using hl) ?_
   refine w_cF rfl ?_
   rfl
 | succ j ih =>
  intro m x c h0 hc hm hx0 hx1
  obtain ⟨m, rfl⟩ : ∃ m', m = m' + 1 := ⟨m - 1, by omega⟩
  rw [f107_l0]
  simp only [PR_len, PR_bin, PR_cond, PR_guard, PR_pick, PR_un]
  refine w_len ?_
  refine w_bin (v := .sc (.bool (decide (c ≤ (u.length : Nat))))) (fun k => rfl) ?_
  have hl : c ≤ (u.length : Nat) := by omega
  refine w_gT (by simpa using hl) ?_
  refine w_gT (by simpa using hl) ?_
  refine w_bin (v := .sc (.bool (decide (c < 65535)))) (fun k => rfl) ?_
  refine w_pT (by simpa using hl) ?_
  refine w_cT (by simp; omega) ?_
  refine w_bin (v := .sc (.int .i64 (x + 1))) (fun k => by rw [add64, wrap64 _ (by omega) (by omega)]) ?_
  refine w_bin (v := .sc (.bool (decide (x + 1 > 65535)))) (fun k => rfl) ?_
  refine w_letJ ?_
  have hnx := nx_of x hx0 hx1
  have hr : 0 ≤ nx x ∧ nx x ≤ 65535 := by
   unfold nx
   omega
  have tail : ∀ y, y = nx x → ((PR (n + 1) AV).call 4 (.fn 153 [] []) [intsC u, .sc (.int .i64 y)] H fun t28 H => pUn .not t28 fun t29 => pCond t29 (k (packA [.sc (.int .i64 y), .sc (.bool true)]) H) (pBin .add (.sc (.int .i64 c)) (.sc (.int .i64 1)) fun t21 => f107_l0 (PR (n + 1) AV) (n + 1) k m (intsC u) (.sc (.int .i64 y)) t21 H)) = k (.tup [.sc (.int .i64 (seek u (j + 1) x).1), .sc (.bool (seek u (j + 1) x).2)]) H := by
   rintro y rfl
   refine lw_sc rfl (vcons (Vw_ro _ _ _) (vcons (Vw_sc _ _) vnil)) (hasSF n _ hn u hu (nx x)) ?_
   refine w_not ?_
   rw [seek]
   cases hh : u.contains (nx x)
   ·refine w_cT rfl ?_
    rfl
   ·refine w_cF rfl ?_
    refine w_bin (v := .sc (.int .i64 (c + 1))) (fun k => by rw [add64, wrap64 _ (by omega) (by omega)]) ?_
    exact ih m (nx x) (c + 1) (by omega) (by omega) (by omega) hr.1 hr.2
  by_cases hg : x + 1 > 65535
  ·refine w_cT (by simpa using hg) ?_
   rw [if_pos hg] at hnx
   exact tail 1 hnx.symm
  ·refine w_cF (by simpa using hg) ?_
   rw [if_neg hg] at hnx
   exact tail (x + 1) hnx.symm
theorem ret_sc2 {ty : Nat} {H : Heap} {t0 t1 : Nat} {a b : Value} (hts : E0.tp ty = some [t0, t1]) : ownTree ti0 E0.tp ty H (.tup [.sc a, .sc b]) = some (.tup [.sc a, .sc b]) := by
 rw [ownTree, ownT_tup, hts, Option.bind_some]
 simp [ownL, ownT_sc]
theorem specNextF (n : Nat) (hn : 1048576 < n) (ty : Nat) (hty : ∃ t0 t1, E0.tp ty = some [t0, t1]) (x : Int) (u : List Int) (hu : u.length ≤ 1048576) : tree E0 (n + 2) ty 107 [.sc (.int .i64 x), intsC u] = some (.tup [.sc (.int .i64 (vNext x u).1), .sc (.bool (vNext x u).2)]) := by
 obtain ⟨t0, t1, hty⟩ := hty
 rw [tree_def, f107_eq, f107]
 simp only [PR_un, PR_cond]
 refine lw_sc rfl (vcons (Vw_sc _ _) (vcons (Vw_sc _ _) (vcons (Vw_sc _ _) vnil))) (l1InF n _ x 0 65535) ?_
 refine w_not ?_
 unfold vNext
 by_cases h : 0 ≤ x ∧ x ≤ 65535
 ·rw [if_pos h]
  refine w_cF (by simp [vIn, h]) ?_
  rw [nextS_loop n hn u hu _ _ (min (u.length + 1) 65535) (n + 1) x 0 (by omega) (by omega) (by omega) h.1 h.2, seek_eq u x h.1]
  exact ret_sc2 hty
 ·rw [if_neg h]
  refine w_cT (by simp [vIn]; omega) ?_
  exact ret_sc2 hty
end Go.Proofs.YtdameggfgnpehaaGreatDoor.Abs
set_option linter.unusedVariables false
set_option linter.unusedSimpArgs false
set_option maxRecDepth 100000
set_option maxHeartbeats 1600000
namespace Go.Proofs.YtdameggfgnpehaaGreatDoor.Abs
open Go
theorem smOC (o : OutV) (h : wtOut o ≤ 1048576) : smOutC o := by
 have h1 := smwOut o h
 exact ⟨⟨h1.1.1, fun y hy => (h1.1.2 y hy).1⟩, ⟨h1.2.1.1, fun y hy => (h1.2.1.2 y hy).1⟩⟩
def pkt0 : PacketV := ⟨0, false, 0, false, 0, ⟨#[]⟩, ⟨#[]⟩, ⟨#[]⟩, 0, false, 0, false, ⟨#[]⟩, ⟨#[]⟩, 0, false, false, ⟨#[]⟩, false, ⟨#[]⟩, 0, false, [], [], []⟩
def vPub (m : MsgV) (i : Int) (d : Bool) : PacketV := ⟨3, d, m.fQos, m.fRetain, i, m.fTopic, m.fBody, ⟨#[]⟩, 0, false, 0, false, ⟨#[]⟩, ⟨#[]⟩, 0, false, false, ⟨#[]⟩, false, ⟨#[]⟩, 0, false, [], [], []⟩
def vReady (o : OutV) : Bool := ((vOutOk o && decide ((o.fQ.length : Int) > 0)) && ((o.fQ.headD msgD).fQos == 0 || decide ((o.fFl.length : Int) < 3)))
def vNextId (o : OutV) : Int := (vNext o.fLast (o.fFl.map (·.fId))).1
def vOutNext (o : OutV) : OutV := if vReady o then (if (vPop1 o.fQ).fQos = 0 then { o with fQ := o.fQ.tail } else ⟨vNextId o, o.fFl ++ [⟨vNextId o, vPop1 o.fQ, (vPop1 o.fQ).fQos⟩], o.fQ.tail⟩) else o
def vOutNextP (o : OutV) : PacketV := if vReady o then (if (vPop1 o.fQ).fQos = 0 then vPub (vPop1 o.fQ) 0 false else vPub (vPop1 o.fQ) (vNextId o) false) else pkt0
theorem q_wt (o : OutV) (b : wtOut o ≤ 1048576) : wtL wtMsg o.fQ ≤ 1048576 := by
 unfold wtOut at b
 omega
theorem fl_len (o : OutV) (b : wtOut o ≤ 1048576) : o.fFl.length ≤ 1048576 := (fl_hyp o b).1.1
theorem pop_body (o : OutV) (b : wtOut o ≤ 1048576) : (vPop1 o.fQ).fBody.size ≤ 1048576 := (resF_Pop_1 o.fQ (q_wt o b)).2.1
theorem specPubF (n : Nat) (hn : 1048576 < n) (m : MsgV) (i : Int) (d : Bool) (hs : m.fBody.size ≤ 1048576) : tree E0 (n + 1) 75 89 [.agg (encMsg m), .sc (.int .i64 i), .sc (.bool d)] = some (.agg (encPacket (vPub m i d))) := by
 rw [tree_def, f89_eq, f89]
 refine tree_gd (G := (· = some (.agg (encPacket (vPub m i d))))) ?_
 try simp only [PR_box, PR_new, PR_newSl, PR_fadr, PR_load, PR_store, PR_bin, PR_binB, PR_binA, PR_un, PR_cond, PR_guard, PR_pick, PR_len, PR_lenS, PR_iadr, PR_idx, PR_slice, PR_sliceS, PR_fill, PR_make, PR_app, PR_appS, PR_cvI, PR_cvSS, PR_cvBS, PR_cvSB, PR_extr, PR_nil, PR_clear, PR_fld, PR_apart, PR_same]
 have s0 : Sep [] [] := sep_nil
 refine g_box s0 (cells_fl (flMsg _)) fun i1 H s2 => ?_
 refine g_new s2 fun i3 H s4 => ?_
 refine g_fadr (o' := 2) rfl ?_
 refine g_ld (c := .sc (.int .i64 m.fQos)) s4 (.there (.here)) rfl ?_
 refine g_fadr (o' := 3) rfl ?_
 refine g_ld (c := .sc (.bool m.fRetain)) s4 (.there (.here)) rfl ?_
 refine g_fadr (o' := 0) rfl ?_
 refine g_ld (c := .sc (.string m.fTopic)) s4 (.there (.here)) rfl ?_
 refine g_fadr (o' := 1) rfl ?_
 refine g_ld (c := bytesC m.fBody) s4 (.there (.here)) rfl ?_
 refine g_copyB s4 (by omega) fun x5 H lx5 s6 => ?_
 refine g_fill (cs := [.sc (.int .i64 3), .sc (.bool d), .sc (.int .i64 m.fQos), .sc (.bool m.fRetain), .sc (.int .i64 i), .sc (.string m.fTopic), x5, .sc (.string (⟨#[]⟩)), .sc (.int .i64 0), .sc (.bool false), .sc (.int .i64 0), .sc (.bool false), .sc (.string (⟨#[]⟩)), .nl, .sc (.int .i64 0), .sc (.bool false), .sc (.bool false), .sc (.string (⟨#[]⟩)), .sc (.bool false), .nl, .sc (.int .i64 0), .sc (.bool false), .nl, .nl, .nl]) (fill_c (z' := [.sc (.int .i64 3), .sc (.bool false), .sc (.int .i64 0), .sc (.bool false), .sc (.int .i64 0), .sc (.string (⟨#[]⟩)), .nl, .sc (.string (⟨#[]⟩)), .sc (.int .i64 0), .sc (.bool false), .sc (.int .i64 0), .sc (.bool false), .sc (.string (⟨#[]⟩)), .nl, .sc (.int .i64 0), .sc (.bool false), .sc (.bool false), .sc (.string (⟨#[]⟩)), .sc (.bool false), .nl, .sc (.int .i64 0), .sc (.bool false), .nl, .nl, .nl]) (cells_leaf rfl) rfl (Nat.le_of_ble_eq_true rfl) rfl (fill_c (z' := [.sc (.int .i64 3), .sc (.bool d), .sc (.int .i64 0), .sc (.bool false), .sc (.int .i64 0), .sc (.string (⟨#[]⟩)), .nl, .sc (.string (⟨#[]⟩)), .sc (.int .i64 0), .sc (.bool false), .sc (.int .i64 0), .sc (.bool false), .sc (.string (⟨#[]⟩)), .nl, .sc (.int .i64 0), .sc (.bool false), .sc (.bool false), .sc (.string (⟨#[]⟩)), .sc (.bool false), .nl, .sc (.int .i64 0), .sc (.bool false), .nl, .nl, .nl]) (cells_leaf rfl) rfl (Nat.le_of_ble_eq_true rfl) rfl (fill_c (z' := [.sc (.int .i64 3), .sc (.bool d), .sc (.int .i64 m.fQos), .sc (.bool false), .sc (.int .i64 0), .sc (.string (⟨#[]⟩)), .nl, .sc (.string (⟨#[]⟩)), .sc (.int .i64 0), .sc (.bool false), .sc (.int .i64 0), .sc (.bool false), .sc (.string (⟨#[]⟩)), .nl, .sc (.int .i64 0), .sc (.bool false), .sc (.bool false), .sc (.string (⟨#[]⟩)), .sc (.bool false), .nl, .sc (.int .i64 0), .sc (.bool false), .nl, .nl, .nl]) (cells_leaf rfl) rfl (Nat.le_of_ble_eq_true rfl) rfl (fill_c (z' := [.sc (.int .i64 3), .sc (.bool d), .sc (.int .i64 m.fQos), .sc (.bool m.fRetain), .sc (.int .i64 0), .sc (.string (⟨#[]⟩)), .nl, .sc (.string (⟨#[]⟩)), .sc (.int .i64 0), .sc (.bool false), .sc (.int .i64 0), .sc (.bool false), .sc (.string (⟨#[]⟩)), .nl, .sc (.int .i64 0), .sc (.bool false), .sc (.bool false), .sc (.string (⟨#[]⟩)), .sc (.bool false), .nl, .sc (.int .i64 0), .sc (.bool false), .nl, .nl, .nl]) (cells_leaf rfl) rfl (Nat.le_of_ble_eq_true rfl) rfl (fill_c (z' := [.sc (.int .i64 3), .sc (.bool d), .sc (.int .i64 m.fQos), .sc (.bool m.fRetain), .sc (.int .i64 i), .sc (.string (⟨#[]⟩)), .nl, .sc (.string (⟨#[]⟩)), .sc (.int .i64 0), .sc (.bool false), .sc (.int .i64 0), .sc (.bool false), .sc (.string (⟨#[]⟩)), .nl, .sc (.int .i64 0), .sc (.bool false), .sc (.bool false), .sc (.string (⟨#[]⟩)), .sc (.bool false), .nl, .sc (.int .i64 0), .sc (.bool false), .nl, .nl, .nl]) (cells_leaf rfl) rfl (Nat.le_of_ble_eq_true rfl) rfl (fill_c (z' := [.sc (.int .i64 3), .sc (.bool d), .sc (.int .i64 m.fQos), .sc (.bool m.fRetain), .sc (.int .i64 i), .sc (.string m.fTopic), .nl, .sc (.string (⟨#[]⟩)), .sc (.int .i64 0), .sc (.bool false), .sc (.int .i64 0), .sc (.bool false), .sc (.string (⟨#[]⟩)), .nl, .sc (.int .i64 0), .sc (.bool false), .sc (.bool false), .sc (.string (⟨#[]⟩)), .sc (.bool false), .nl, .sc (.int .i64 0), .sc (.bool false), .nl, .nl, .nl]) (cells_leaf rfl) rfl (Nat.le_of_ble_eq_true rfl) rfl (fill_c (z' := [.sc (.int .i64 3), .sc (.bool d), .sc (.int .i64 m.fQos), .sc (.bool m.fRetain), .sc (.int .i64 i), .sc (.string m.fTopic), x5, .sc (.string (⟨#[]⟩)), .sc (.int .i64 0), .sc (.bool false), .sc (.int .i64 0), .sc (.bool false), .sc (.string (⟨#[]⟩)), .nl, .sc (.int .i64 0), .sc (.bool false), .sc (.bool false), .sc (.string (⟨#[]⟩)), .sc (.bool false), .nl, .sc (.int .i64 0), .sc (.bool false), .nl, .nl, .nl]) (cells_leaf lx5) rfl (Nat.le_of_ble_eq_true rfl) rfl (rfl)))))))) ?_
 refine g_st (cs' := [.sc (.int .i64 3), .sc (.bool d), .sc (.int .i64 m.fQos), .sc (.bool m.fRetain), .sc (.int .i64 i), .sc (.string m.fTopic), x5, .sc (.string (⟨#[]⟩)), .sc (.int .i64 0), .sc (.bool false), .sc (.int .i64 0), .sc (.bool false), .sc (.string (⟨#[]⟩)), .nl, .sc (.int .i64 0), .sc (.bool false), .sc (.bool false), .sc (.string (⟨#[]⟩)), .sc (.bool false), .nl, .sc (.int .i64 0), .sc (.bool false), .nl, .nl, .nl]) s6 (.there (.here)) (cells_agg (lf_c rfl (lf_c rfl (lf_c rfl (lf_c rfl (lf_c rfl (lf_c rfl (lf_c lx5 (lf_c rfl (lf_c rfl (lf_c rfl (lf_c rfl (lf_c rfl (lf_c rfl (lf_c rfl (lf_c rfl (lf_c rfl (lf_c rfl (lf_c rfl (lf_c rfl (lf_c rfl (lf_c rfl (lf_c rfl (lf_c rfl (lf_c rfl (lf_c rfl rfl)))))))))))))))))))))))))) rfl (Nat.le_of_ble_eq_true rfl) rfl fun H s7 => ?_
 refine g_ldW s7 (.here) rfl ?_
 refine g_ret (ret_agg s7 ⟨_, rfl, rfl⟩ (.sc (.sc (.sc (.sc (.sc (.sc (.own (.there (.here)) (.sc (.sc (.sc (.sc (.sc (.sc (.nl (.sc (.sc (.sc (.sc (.sc (.nl (.sc (.sc (.nl (.nl (.nl .nil))))))))))))))))))))))))) ⟨trivial, ⟨trivial, ⟨trivial, ⟨trivial, ⟨trivial, ⟨trivial, ⟨(okW_le (okB6 m.fBody) (by decide)), ⟨trivial, ⟨trivial, ⟨trivial, ⟨trivial, ⟨trivial, ⟨trivial, ⟨(okNl ⟨_, _, rfl, rfl⟩), ⟨trivial, ⟨trivial, ⟨trivial, ⟨trivial, ⟨trivial, ⟨(okNl ⟨_, _, rfl, rfl⟩), ⟨trivial, ⟨trivial, ⟨(okNl ⟨_, _, rfl, rfl⟩), ⟨(okNl ⟨_, _, rfl, rfl⟩), ⟨(okNl ⟨_, _, rfl, rfl⟩), trivial⟩⟩⟩⟩⟩⟩⟩⟩⟩⟩⟩⟩⟩⟩⟩⟩⟩⟩⟩⟩⟩⟩⟩⟩⟩) ?_
 have e8 : vPub m i d = (⟨3, d, m.fQos, m.fRetain, i, m.fTopic, m.fBody, ⟨#[]⟩, 0, false, 0, false, ⟨#[]⟩, ⟨#[]⟩, 0, false, false, ⟨#[]⟩, false, ⟨#[]⟩, 0, false, [], [], []⟩ : PacketV) := by
  clear s0 s2 s4 s6 s7
  first | assumption | (simp only [vPub, if_true, if_false, Bool.false_eq_true]; first | done | rfl)
 rw [e8]
 first | done | rfl
theorem implPubF (n : Nat) (hn : 1048576 < n) (m : MsgV) (i : Int) (d : Bool) (hs : m.fBody.size ≤ 1048576) : tree E0 (n + 2) 75 93 [.agg (encMsg m), .sc (.int .i64 i), .sc (.bool d)] = some (.agg (encPacket (vPub m i d))) := by
 rw [tree_def, f93_eq, f93]
 refine tree_gd (G := (· = some (.agg (encPacket (vPub m i d))))) ?_
 try simp only [PR_box, PR_new, PR_newSl, PR_fadr, PR_load, PR_store, PR_bin, PR_binB, PR_binA, PR_un, PR_cond, PR_guard, PR_pick, PR_len, PR_lenS, PR_iadr, PR_idx, PR_slice, PR_sliceS, PR_fill, PR_make, PR_app, PR_appS, PR_cvI, PR_cvSS, PR_cvBS, PR_cvSB, PR_extr, PR_nil, PR_clear, PR_fld, PR_apart, PR_same]
 have s0 : Sep [] [] := sep_nil
 refine g_box s0 (cells_fl (flMsg _)) fun i1 H s2 => ?_
 refine g_new s2 fun i3 H s4 => ?_
 refine g_fadr (o' := 2) rfl ?_
 refine g_ld (c := .sc (.int .i64 m.fQos)) s4 (.there (.here)) rfl ?_
 refine g_fadr (o' := 3) rfl ?_
 refine g_ld (c := .sc (.bool m.fRetain)) s4 (.there (.here)) rfl ?_
 refine g_fadr (o' := 0) rfl ?_
 refine g_ld (c := .sc (.string m.fTopic)) s4 (.there (.here)) rfl ?_
 refine g_fadr (o' := 1) rfl ?_
 refine g_ld (c := bytesC m.fBody) s4 (.there (.here)) rfl ?_
 refine g_fill (cs := [bytesC m.fBody]) rfl ?_
 refine g_newSl s4 fun i5 H s6 => ?_
 refine g_callO s6 rfl (.sl (.here) rfl (.cons .ro .nil) .nil) (joined1F n (by omega) m.fBody (by omega)) (okB6 m.fBody) fun x7 H lx7 s8 => ?_
 refine g_fill (cs := [.sc (.int .i64 3), .sc (.bool d), .sc (.int .i64 m.fQos), .sc (.bool m.fRetain), .sc (.int .i64 i), .sc (.string m.fTopic), x7, .sc (.string (⟨#[]⟩)), .sc (.int .i64 0), .sc (.bool false), .sc (.int .i64 0), .sc (.bool false), .sc (.string (⟨#[]⟩)), .nl, .sc (.int .i64 0), .sc (.bool false), .sc (.bool false), .sc (.string (⟨#[]⟩)), .sc (.bool false), .nl, .sc (.int .i64 0), .sc (.bool false), .nl, .nl, .nl]) (fill_c (z' := [.sc (.int .i64 3), .sc (.bool false), .sc (.int .i64 0), .sc (.bool false), .sc (.int .i64 0), .sc (.string (⟨#[]⟩)), .nl, .sc (.string (⟨#[]⟩)), .sc (.int .i64 0), .sc (.bool false), .sc (.int .i64 0), .sc (.bool false), .sc (.string (⟨#[]⟩)), .nl, .sc (.int .i64 0), .sc (.bool false), .sc (.bool false), .sc (.string (⟨#[]⟩)), .sc (.bool false), .nl, .sc (.int .i64 0), .sc (.bool false), .nl, .nl, .nl]) (cells_leaf rfl) rfl (Nat.le_of_ble_eq_true rfl) rfl (fill_c (z' := [.sc (.int .i64 3), .sc (.bool d), .sc (.int .i64 0), .sc (.bool false), .sc (.int .i64 0), .sc (.string (⟨#[]⟩)), .nl, .sc (.string (⟨#[]⟩)), .sc (.int .i64 0), .sc (.bool false), .sc (.int .i64 0), .sc (.bool false), .sc (.string (⟨#[]⟩)), .nl, .sc (.int .i64 0), .sc (.bool false), .sc (.bool false), .sc (.string (⟨#[]⟩)), .sc (.bool false), .nl, .sc (.int .i64 0), .sc (.bool false), .nl, .nl, .nl]) (cells_leaf rfl) rfl (Nat.le_of_ble_eq_true rfl) rfl (fill_c (z' := [.sc (.int .i64 3), .sc (.bool d), .sc (.int .i64 m.fQos), .sc (.bool false), .sc (.int .i64 0), .sc (.string (⟨#[]⟩)), .nl, .sc (.string (⟨#[]⟩)), .sc (.int .i64 0), .sc (.bool false), .sc (.int .i64 0), .sc (.bool false), .sc (.string (⟨#[]⟩)), .nl, .sc (.int .i64 0), .sc (.bool false), .sc (.bool false), .sc (.string (⟨#[]⟩)), .sc (.bool false), .nl, .sc (.int .i64 0), .sc (.bool false), .nl, .nl, .nl]) (cells_leaf rfl) rfl (Nat.le_of_ble_eq_true rfl) rfl (fill_c (z' := [.sc (.int .i64 3), .sc (.bool d), .sc (.int .i64 m.fQos), .sc (.bool m.fRetain), .sc (.int .i64 0), .sc (.string (⟨#[]⟩)), .nl, .sc (.string (⟨#[]⟩)), .sc (.int .i64 0), .sc (.bool false), .sc (.int .i64 0), .sc (.bool false), .sc (.string (⟨#[]⟩)), .nl, .sc (.int .i64 0), .sc (.bool false), .sc (.bool false), .sc (.string (⟨#[]⟩)), .sc (.bool false), .nl, .sc (.int .i64 0), .sc (.bool false), .nl, .nl, .nl]) (cells_leaf rfl) rfl (Nat.le_of_ble_eq_true rfl) rfl (fill_c (z' := [.sc (.int .i64 3), .sc (.bool d), .sc (.int .i64 m.fQos), .sc (.bool m.fRetain), .sc (.int .i64 i), .sc (.string (⟨#[]⟩)), .nl, .sc (.string (⟨#[]⟩)), .sc (.int .i64 0), .sc (.bool false), .sc (.int .i64 0), .sc (.bool false), .sc (.string (⟨#[]⟩)), .nl, .sc (.int .i64 0), .sc (.bool false), .sc (.bool false), .sc (.string (⟨#[]⟩)), .sc (.bool false), .nl, .sc (.int .i64 0), .sc (.bool false), .nl, .nl, .nl]) (cells_leaf rfl) rfl (Nat.le_of_ble_eq_true rfl) rfl (fill_c (z' := [.sc (.int .i64 3), .sc (.bool d), .sc (.int .i64 m.fQos), .sc (.bool m.fRetain), .sc (.int .i64 i), .sc (.string m.fTopic), .nl, .sc (.string (⟨#[]⟩)), .sc (.int .i64 0), .sc (.bool false), .sc (.int .i64 0), .sc (.bool false), .sc (.string (⟨#[]⟩)), .nl, .sc (.int .i64 0), .sc (.bool false), .sc (.bool false), .sc (.string (⟨#[]⟩)), .sc (.bool false), .nl, .sc (.int .i64 0), .sc (.bool false), .nl, .nl, .nl]) (cells_leaf rfl) rfl (Nat.le_of_ble_eq_true rfl) rfl (fill_c (z' := [.sc (.int .i64 3), .sc (.bool d), .sc (.int .i64 m.fQos), .sc (.bool m.fRetain), .sc (.int .i64 i), .sc (.string m.fTopic), x7, .sc (.string (⟨#[]⟩)), .sc (.int .i64 0), .sc (.bool false), .sc (.int .i64 0), .sc (.bool false), .sc (.string (⟨#[]⟩)), .nl, .sc (.int .i64 0), .sc (.bool false), .sc (.bool false), .sc (.string (⟨#[]⟩)), .sc (.bool false), .nl, .sc (.int .i64 0), .sc (.bool false), .nl, .nl, .nl]) (cells_leaf lx7) rfl (Nat.le_of_ble_eq_true rfl) rfl (rfl)))))))) ?_
 refine g_st (cs' := [.sc (.int .i64 3), .sc (.bool d), .sc (.int .i64 m.fQos), .sc (.bool m.fRetain), .sc (.int .i64 i), .sc (.string m.fTopic), x7, .sc (.string (⟨#[]⟩)), .sc (.int .i64 0), .sc (.bool false), .sc (.int .i64 0), .sc (.bool false), .sc (.string (⟨#[]⟩)), .nl, .sc (.int .i64 0), .sc (.bool false), .sc (.bool false), .sc (.string (⟨#[]⟩)), .sc (.bool false), .nl, .sc (.int .i64 0), .sc (.bool false), .nl, .nl, .nl]) s8 (.there (.there (.here))) (cells_agg (lf_c rfl (lf_c rfl (lf_c rfl (lf_c rfl (lf_c rfl (lf_c rfl (lf_c lx7 (lf_c rfl (lf_c rfl (lf_c rfl (lf_c rfl (lf_c rfl (lf_c rfl (lf_c rfl (lf_c rfl (lf_c rfl (lf_c rfl (lf_c rfl (lf_c rfl (lf_c rfl (lf_c rfl (lf_c rfl (lf_c rfl (lf_c rfl (lf_c rfl rfl)))))))))))))))))))))))))) rfl (Nat.le_of_ble_eq_true rfl) rfl fun H s9 => ?_
 refine g_ldW s9 (.here) rfl ?_
 refine g_ret (ret_agg s9 ⟨_, rfl, rfl⟩ (.sc (.sc (.sc (.sc (.sc (.sc (.own (.there (.here)) (.sc (.sc (.sc (.sc (.sc (.sc (.nl (.sc (.sc (.sc (.sc (.sc (.nl (.sc (.sc (.nl (.nl (.nl .nil))))))))))))))))))))))))) ⟨trivial, ⟨trivial, ⟨trivial, ⟨trivial, ⟨trivial, ⟨trivial, ⟨(okW_le (okB6 m.fBody) (by decide)), ⟨trivial, ⟨trivial, ⟨trivial, ⟨trivial, ⟨trivial, ⟨trivial, ⟨(okNl ⟨_, _, rfl, rfl⟩), ⟨trivial, ⟨trivial, ⟨trivial, ⟨trivial, ⟨trivial, ⟨(okNl ⟨_, _, rfl, rfl⟩), ⟨trivial, ⟨trivial, ⟨(okNl ⟨_, _, rfl, rfl⟩), ⟨(okNl ⟨_, _, rfl, rfl⟩), ⟨(okNl ⟨_, _, rfl, rfl⟩), trivial⟩⟩⟩⟩⟩⟩⟩⟩⟩⟩⟩⟩⟩⟩⟩⟩⟩⟩⟩⟩⟩⟩⟩⟩⟩) ?_
 have e10 : vPub m i d = (⟨3, d, m.fQos, m.fRetain, i, m.fTopic, m.fBody, ⟨#[]⟩, 0, false, 0, false, ⟨#[]⟩, ⟨#[]⟩, 0, false, false, ⟨#[]⟩, false, ⟨#[]⟩, 0, false, [], [], []⟩ : PacketV) := by
  clear s0 s2 s4 s6 s8 s9
  first | assumption | (simp only [vPub, if_true, if_false, Bool.false_eq_true]; first | done | rfl)
 rw [e10]
 first | done | rfl
theorem specF_OutNext_l0 (n : Nat) (hn : 1048576 < n) (x0 : OutV) (k0 : okOut x0) (b0 : wtOut x0 ≤ 1048576) (h13 : (vReady x0) = true) (h21 : (decide (((vPop1 x0.fQ).fQos) = 0)) = false)  : ∀ (t pre : List FlightV) (m : Nat) (i : Int) (i10 i17 i5 i3 i1 : Nat) (a5 x14 x15 x7 x8 : AV) (H : Heap), x0.fFl = pre ++ t → i = ((pre.length : Nat) : Int) → t.length < m → isLeaf a5 = true → isLeaf x14 = true → isLeaf x15 = true → isLeaf x7 = true → isLeaf x8 = true → Sep H [.own a5 26 (intsC (pre.map (·.fId))), .blk i10 [.sc (.int .i64 x0.fLast), x8, x15] true, .blk i17 [.sc (.string ((vPop1 x0.fQ).fTopic)), x14, .sc (.int .i64 ((vPop1 x0.fQ).fQos)), .sc (.bool (vPop1 x0.fQ).fRetain)] true, .own x14 43 (bytesC ((vPop1 x0.fQ).fBody)), .own x15 31 (rowsC encMsg x0.fQ.tail), .own x7 31 (rowsC encMsg x0.fQ), .own x8 30 (rowsC encFlight x0.fFl), .blk i5 [.sc (.int .i64 0), .sc (.bool false), .sc (.int .i64 0), .sc (.bool false), .sc (.int .i64 0), .sc (.string (⟨#[]⟩)), .nl, .sc (.string (⟨#[]⟩)), .sc (.int .i64 0), .sc (.bool false), .sc (.int .i64 0), .sc (.bool false), .sc (.string (⟨#[]⟩)), .nl, .sc (.int .i64 0), .sc (.bool false), .sc (.bool false), .sc (.string (⟨#[]⟩)), .sc (.bool false), .nl, .sc (.int .i64 0), .sc (.bool false), .nl, .nl, .nl] true, .blk i3 [.sc (.int .i64 0), .nl, .nl] true, .blk i1 (encOut x0) true] → Gd (· = some (.tup [.agg (encOut (vOutNext x0)), .agg (encPacket (vOutNextP x0)), .sc (.bool (vReady x0))])) (f44_l0 (PR (n + 12) AV) (n + 12) (fun x H => ownTree ti0 E0.tp 76 H x) m (.ptr i1 0) (.ptr i3 0) (.ptr i5 0) (.ptr i10 0) (.ptr i17 0) (a5) (.sc (.int .i64 i)) H)
 | [], pre, m + 1, i, i10, i17, i5, i3, i1, a5, x14, x15, x7, x8, H, he, hi, hm, la5, lx14, lx15, lx7, lx8, s0 => by
  obtain rfl : pre = x0.fFl := by simpa using he.symm
  have hfl := fl_len x0 b0
  have hpb := pop_body x0 b0
  rw [f44_l0]
  try simp only [PR_box, PR_new, PR_newSl, PR_fadr, PR_load, PR_store, PR_bin, PR_binB, PR_binA, PR_un, PR_cond, PR_guard, PR_pick, PR_len, PR_lenS, PR_iadr, PR_idx, PR_slice, PR_sliceS, PR_fill, PR_make, PR_app, PR_appS, PR_cvI, PR_cvSS, PR_cvBS, PR_cvSB, PR_extr, PR_nil, PR_clear, PR_fld, PR_apart, PR_same]
  refine g_fadr (o' := 1) rfl ?_
  refine g_ld (c := rowsC encFlight x0.fFl) s0 (.there (.there (.there (.there (.there (.there (.there (.there (.there (.here)))))))))) rfl ?_
  refine g_len ?_
  refine g_lss ?_
  refine g_cF (by simp [hi]) ?_
  refine g_fadr (o' := 0) rfl ?_
  refine g_ld (c := .sc (.int .i64 x0.fLast)) s0 (.there (.there (.there (.there (.there (.there (.there (.there (.there (.here)))))))))) rfl ?_
  have c201 := specNextF (n + 10) (by omega) 131 ⟨_, _, rfl⟩ x0.fLast (x0.fFl.map (·.fId)) (by rw [List.length_map]; omega)
  refine g_callT s0 rfl (.cons .sc (.cons (.own (by decide) (.here)) .nil)) (c201) rfl (ins_sc (ins_sc ins_nil)) ?_
  rintro _ _ H ⟨_, rfl, ⟨_, rfl, ⟨rfl, rfl⟩⟩⟩ s202
  simp only [List.nil_append] at s202
  refine g_extr (v := .sc (.int .i64 ((vNext x0.fLast (x0.fFl.map (·.fId))).1))) rfl ?_
  refine g_extr (v := .sc (.bool (vNext x0.fLast (x0.fFl.map (·.fId))).2)) rfl ?_
  refine g_fadr (o' := 0) rfl ?_
  refine g_st (cs' := [.sc (.int .i64 ((vNext x0.fLast (x0.fFl.map (·.fId))).1)), x8, x15]) s202 (.there (.here)) (cells_leaf rfl) rfl (Nat.le_of_ble_eq_true rfl) rfl fun H s203 => ?_
  refine g_fadr (o' := 1) rfl ?_
  refine g_ld (c := x8) s203 (.here) rfl ?_
  refine g_ldW s203 (.there (.there (.here))) rfl ?_
  refine g_fadr (o' := 2) rfl ?_
  refine g_ld (c := .sc (.int .i64 ((vPop1 x0.fQ).fQos))) s203 (.there (.there (.here))) rfl ?_
  refine g_fill (cs := [.sc (.int .i64 ((vNext x0.fLast (x0.fFl.map (·.fId))).1)), .sc (.string ((vPop1 x0.fQ).fTopic)), x14, .sc (.int .i64 ((vPop1 x0.fQ).fQos)), .sc (.bool (vPop1 x0.fQ).fRetain), .sc (.int .i64 ((vPop1 x0.fQ).fQos))]) (fill_c (z' := [.sc (.int .i64 ((vNext x0.fLast (x0.fFl.map (·.fId))).1)), .sc (.string (⟨#[]⟩)), .nl, .sc (.int .i64 0), .sc (.bool false), .sc (.int .i64 0)]) (cells_leaf rfl) rfl (Nat.le_of_ble_eq_true rfl) rfl (fill_c (z' := [.sc (.int .i64 ((vNext x0.fLast (x0.fFl.map (·.fId))).1)), .sc (.string ((vPop1 x0.fQ).fTopic)), x14, .sc (.int .i64 ((vPop1 x0.fQ).fQos)), .sc (.bool (vPop1 x0.fQ).fRetain), .sc (.int .i64 0)]) (cells_agg (lf_c rfl (lf_c lx14 (lf_c rfl (lf_c rfl rfl))))) rfl (Nat.le_of_ble_eq_true rfl) rfl (fill_c (z' := [.sc (.int .i64 ((vNext x0.fLast (x0.fFl.map (·.fId))).1)), .sc (.string ((vPop1 x0.fQ).fTopic)), x14, .sc (.int .i64 ((vPop1 x0.fQ).fQos)), .sc (.bool (vPop1 x0.fQ).fRetain), .sc (.int .i64 ((vPop1 x0.fQ).fQos))]) (cells_leaf rfl) rfl (Nat.le_of_ble_eq_true rfl) rfl (rfl)))) ?_
  refine g_fill (cs := [.sc (.int .i64 ((vNext x0.fLast (x0.fFl.map (·.fId))).1)), .sc (.string ((vPop1 x0.fQ).fTopic)), x14, .sc (.int .i64 ((vPop1 x0.fQ).fQos)), .sc (.bool (vPop1 x0.fQ).fRetain), .sc (.int .i64 ((vPop1 x0.fQ).fQos))]) (fill_c (z' := [.sc (.int .i64 ((vNext x0.fLast (x0.fFl.map (·.fId))).1)), .sc (.string ((vPop1 x0.fQ).fTopic)), x14, .sc (.int .i64 ((vPop1 x0.fQ).fQos)), .sc (.bool (vPop1 x0.fQ).fRetain), .sc (.int .i64 ((vPop1 x0.fQ).fQos))]) (cells_agg (lf_c rfl (lf_c rfl (lf_c lx14 (lf_c rfl (lf_c rfl (lf_c rfl rfl))))))) rfl (Nat.le_of_ble_eq_true rfl) rfl (rfl)) ?_
  refine g_newSl s203 fun i204 H s205 => ?_
  refine g_appRK (cty := [3, 9, 43, 3, 4, 3]) (e := (⟨(vNext x0.fLast (x0.fFl.map (·.fId))).1, ⟨(vPop1 x0.fQ).fTopic, (vPop1 x0.fQ).fBody, (vPop1 x0.fQ).fQos, (vPop1 x0.fQ).fRetain⟩, (vPop1 x0.fQ).fQos⟩ : FlightV)) (k := 2) s205 ⟨_, _, rfl, rfl, rfl, rfl⟩ (.there (.there (.there (.there (.there (.there (.there (.here)))))))) (.here) rfl (lf_c rfl (lf_c rfl (lf_c lx14 (lf_c rfl (lf_c rfl (lf_c rfl rfl)))))) (.sc (.sc (.own (.there (.there (.there (.here)))) (.sc (.sc (.sc .nil)))))) ⟨trivial, ⟨trivial, ⟨(okB5 ((vPop1 x0.fQ).fBody)), ⟨trivial, ⟨trivial, ⟨trivial, trivial⟩⟩⟩⟩⟩⟩ rfl (by omega) lenFlight rfl rfl rfl rfl (okB6 ((vPop1 x0.fQ).fBody)) fun x206 H lx206 s207 => ?_
  refine g_fadr (o' := 1) rfl ?_
  refine g_st (cs' := [.sc (.int .i64 ((vNext x0.fLast (x0.fFl.map (·.fId))).1)), x206, x15]) s207 (.there (.here)) (cells_leaf lx206) rfl (Nat.le_of_ble_eq_true rfl) rfl fun H s208 => ?_
  refine g_ldW s208 (.here) rfl ?_
  refine g_ldW s208 (.there (.there (.there (.here)))) rfl ?_
  have c209 := specPubF (n + 11) (by omega) (vPop1 x0.fQ) ((vNext x0.fLast (x0.fFl.map (·.fId))).1) false hpb
  refine g_callA s208 rfl (.agg (.cons .sc (.cons (.shr (by decide) (.there (.here))) (.cons .sc (.cons .sc .nil)))) (.cons .sc (.cons .sc .nil))) (c209) ⟨_, rfl, rfl⟩ (ins_sc (ins_sc (ins_sc (ins_sc (ins_sc (ins_sc (ins_ro (ty := 43) rfl (okB6 ((vPub (vPop1 x0.fQ) ((vNext x0.fLast (x0.fFl.map (·.fId))).1) false).fBody)) (ins_sc (ins_sc (ins_sc (ins_sc (ins_sc (ins_sc (ins_ro (ty := 43) rfl (okB6 ((vPub (vPop1 x0.fQ) ((vNext x0.fLast (x0.fFl.map (·.fId))).1) false).fWBody)) (ins_sc (ins_sc (ins_sc (ins_sc (ins_sc (ins_ro (ty := 43) rfl (okB6 ((vPub (vPop1 x0.fQ) ((vNext x0.fLast (x0.fFl.map (·.fId))).1) false).fPass)) (ins_sc (ins_sc (ins_ro (ty := 72) rfl (okRWant ((vPub (vPop1 x0.fQ) ((vNext x0.fLast (x0.fFl.map (·.fId))).1) false).fWants)) (ins_ro (ty := 73) rfl (okS6 ((vPub (vPop1 x0.fQ) ((vNext x0.fLast (x0.fFl.map (·.fId))).1) false).fNames)) (ins_ro (ty := 26) rfl (okI6 ((vPub (vPop1 x0.fQ) ((vNext x0.fLast (x0.fFl.map (·.fId))).1) false).fCodes)) ins_nil))))))))))))))))))))))))) ?_
  rintro _ _ H ⟨_, rfl, ⟨_, rfl, ⟨_, rfl, ⟨_, rfl, ⟨_, rfl, ⟨_, rfl, ⟨x215, _, _, lx215, rfl, rfl, ⟨_, rfl, ⟨_, rfl, ⟨_, rfl, ⟨_, rfl, ⟨_, rfl, ⟨_, rfl, ⟨x214, _, _, lx214, rfl, rfl, ⟨_, rfl, ⟨_, rfl, ⟨_, rfl, ⟨_, rfl, ⟨_, rfl, ⟨x213, _, _, lx213, rfl, rfl, ⟨_, rfl, ⟨_, rfl, ⟨x212, _, _, lx212, rfl, rfl, ⟨x211, _, _, lx211, rfl, rfl, ⟨x210, _, _, lx210, rfl, rfl, ⟨rfl, rfl⟩⟩⟩⟩⟩⟩⟩⟩⟩⟩⟩⟩⟩⟩⟩⟩⟩⟩⟩⟩⟩⟩⟩⟩⟩⟩ s216
  simp only [List.nil_append, List.cons_append] at s216
  refine g_st (cs' := [.sc (.int .i64 ((vNext x0.fLast (x0.fFl.map (·.fId))).1)), x206, x15]) s216 (.there (.there (.there (.there (.there (.there (.there (.there (.there (.there (.there (.there (.there (.here)))))))))))))) (cells_agg (lf_c rfl (lf_c lx206 (lf_c lx15 rfl)))) rfl (Nat.le_of_ble_eq_true rfl) rfl fun H s217 => ?_
  refine g_st (cs' := [.sc (.int .i64 ((vPub (vPop1 x0.fQ) ((vNext x0.fLast (x0.fFl.map (·.fId))).1) false).fType)), .sc (.bool (vPub (vPop1 x0.fQ) ((vNext x0.fLast (x0.fFl.map (·.fId))).1) false).fDup), .sc (.int .i64 ((vPub (vPop1 x0.fQ) ((vNext x0.fLast (x0.fFl.map (·.fId))).1) false).fQos)), .sc (.bool (vPub (vPop1 x0.fQ) ((vNext x0.fLast (x0.fFl.map (·.fId))).1) false).fRetain), .sc (.int .i64 ((vPub (vPop1 x0.fQ) ((vNext x0.fLast (x0.fFl.map (·.fId))).1) false).fId)), .sc (.string ((vPub (vPop1 x0.fQ) ((vNext x0.fLast (x0.fFl.map (·.fId))).1) false).fTopic)), x215, .sc (.string ((vPub (vPop1 x0.fQ) ((vNext x0.fLast (x0.fFl.map (·.fId))).1) false).fClient)), .sc (.int .i64 ((vPub (vPop1 x0.fQ) ((vNext x0.fLast (x0.fFl.map (·.fId))).1) false).fLevel)), .sc (.bool (vPub (vPop1 x0.fQ) ((vNext x0.fLast (x0.fFl.map (·.fId))).1) false).fClean), .sc (.int .i64 ((vPub (vPop1 x0.fQ) ((vNext x0.fLast (x0.fFl.map (·.fId))).1) false).fKeep)), .sc (.bool (vPub (vPop1 x0.fQ) ((vNext x0.fLast (x0.fFl.map (·.fId))).1) false).fHasWill), .sc (.string ((vPub (vPop1 x0.fQ) ((vNext x0.fLast (x0.fFl.map (·.fId))).1) false).fWTopic)), x214, .sc (.int .i64 ((vPub (vPop1 x0.fQ) ((vNext x0.fLast (x0.fFl.map (·.fId))).1) false).fWQos)), .sc (.bool (vPub (vPop1 x0.fQ) ((vNext x0.fLast (x0.fFl.map (·.fId))).1) false).fWRetain), .sc (.bool (vPub (vPop1 x0.fQ) ((vNext x0.fLast (x0.fFl.map (·.fId))).1) false).fHasUser), .sc (.string ((vPub (vPop1 x0.fQ) ((vNext x0.fLast (x0.fFl.map (·.fId))).1) false).fUser)), .sc (.bool (vPub (vPop1 x0.fQ) ((vNext x0.fLast (x0.fFl.map (·.fId))).1) false).fHasPass), x213, .sc (.int .i64 ((vPub (vPop1 x0.fQ) ((vNext x0.fLast (x0.fFl.map (·.fId))).1) false).fCode)), .sc (.bool (vPub (vPop1 x0.fQ) ((vNext x0.fLast (x0.fFl.map (·.fId))).1) false).fPresent), x212, x211, x210]) s217 (.there (.there (.there (.there (.there (.there (.there (.there (.there (.there (.there (.there (.there (.here)))))))))))))) (cells_agg (lf_c rfl (lf_c rfl (lf_c rfl (lf_c rfl (lf_c rfl (lf_c rfl (lf_c lx215 (lf_c rfl (lf_c rfl (lf_c rfl (lf_c rfl (lf_c rfl (lf_c rfl (lf_c lx214 (lf_c rfl (lf_c rfl (lf_c rfl (lf_c rfl (lf_c rfl (lf_c lx213 (lf_c rfl (lf_c rfl (lf_c lx212 (lf_c lx211 (lf_c lx210 rfl)))))))))))))))))))))))))) rfl (Nat.le_of_ble_eq_true rfl) rfl fun H s218 => ?_
  refine g_ldW s218 (.there (.here)) rfl ?_
  refine g_ldW s218 (.here) rfl ?_
  have s219 := s218.forget (.there (.there (.there (.there (.there (.there (.there (.there (.there (.here))))))))))
  refine g_ret (ret_tup s219 rfl (.agg ⟨_, rfl, rfl⟩ (.sc (.own (.here) (.own (.there (.there (.there (.there (.there (.there (.there (.there (.there (.there (.there (.here)))))))))))) .nil))) (.agg ⟨_, rfl, rfl⟩ (.sc (.sc (.sc (.sc (.sc (.sc (.own (.there (.there (.there (.there (.there (.there (.there (.here)))))))) (.sc (.sc (.sc (.sc (.sc (.sc (.own (.there (.there (.there (.there (.there (.there (.here))))))) (.sc (.sc (.sc (.sc (.sc (.own (.there (.there (.there (.there (.there (.here)))))) (.sc (.sc (.own (.there (.there (.there (.there (.here))))) (.own (.there (.there (.there (.here)))) (.own (.there (.there (.here))) .nil))))))))))))))))))))))))) (.sc .nil))) ⟨(okAg ⟨_, rfl, rfl⟩ ⟨trivial, ⟨(okW_le (okRFlight (x0.fFl ++ [⟨(vNext x0.fLast (x0.fFl.map (·.fId))).1, ⟨(vPop1 x0.fQ).fTopic, (vPop1 x0.fQ).fBody, (vPop1 x0.fQ).fQos, (vPop1 x0.fQ).fRetain⟩, (vPop1 x0.fQ).fQos⟩])) (by decide)), ⟨(okW_le (okRMsg x0.fQ.tail) (by decide)), trivial⟩⟩⟩), ⟨(okAg ⟨_, rfl, rfl⟩ ⟨trivial, ⟨trivial, ⟨trivial, ⟨trivial, ⟨trivial, ⟨trivial, ⟨(okW_le (okB6 ((vPub (vPop1 x0.fQ) ((vNext x0.fLast (x0.fFl.map (·.fId))).1) false).fBody)) (by decide)), ⟨trivial, ⟨trivial, ⟨trivial, ⟨trivial, ⟨trivial, ⟨trivial, ⟨(okW_le (okB6 ((vPub (vPop1 x0.fQ) ((vNext x0.fLast (x0.fFl.map (·.fId))).1) false).fWBody)) (by decide)), ⟨trivial, ⟨trivial, ⟨trivial, ⟨trivial, ⟨trivial, ⟨(okW_le (okB6 ((vPub (vPop1 x0.fQ) ((vNext x0.fLast (x0.fFl.map (·.fId))).1) false).fPass)) (by decide)), ⟨trivial, ⟨trivial, ⟨(okW_le (okRWant ((vPub (vPop1 x0.fQ) ((vNext x0.fLast (x0.fFl.map (·.fId))).1) false).fWants)) (by decide)), ⟨(okW_le (okS6 ((vPub (vPop1 x0.fQ) ((vNext x0.fLast (x0.fFl.map (·.fId))).1) false).fNames)) (by decide)), ⟨(okW_le (okI6 ((vPub (vPop1 x0.fQ) ((vNext x0.fLast (x0.fFl.map (·.fId))).1) false).fCodes)) (by decide)), trivial⟩⟩⟩⟩⟩⟩⟩⟩⟩⟩⟩⟩⟩⟩⟩⟩⟩⟩⟩⟩⟩⟩⟩⟩⟩), ⟨trivial, trivial⟩⟩⟩) ?_
  have e220 : vOutNext x0 = (⟨(vNext x0.fLast (x0.fFl.map (·.fId))).1, (x0.fFl ++ [⟨(vNext x0.fLast (x0.fFl.map (·.fId))).1, ⟨(vPop1 x0.fQ).fTopic, (vPop1 x0.fQ).fBody, (vPop1 x0.fQ).fQos, (vPop1 x0.fQ).fRetain⟩, (vPop1 x0.fQ).fQos⟩]), x0.fQ.tail⟩ : OutV) := by
   clear s0 s202 s203 s205 s207 s208 s216 s217 s218 s219
   try simp only [decide_eq_true_eq, decide_eq_false_iff_not, bne_iff_ne, beq_iff_eq, beq_eq_false_iff_ne] at h13 h21
   first | assumption | (simp only [vOutNext, vOutNextP, vNextId, h13, h21, if_true, if_false, Bool.false_eq_true]; first | done | rfl)
  have e221 : vOutNextP x0 = (⟨(vPub (vPop1 x0.fQ) ((vNext x0.fLast (x0.fFl.map (·.fId))).1) false).fType, (vPub (vPop1 x0.fQ) ((vNext x0.fLast (x0.fFl.map (·.fId))).1) false).fDup, (vPub (vPop1 x0.fQ) ((vNext x0.fLast (x0.fFl.map (·.fId))).1) false).fQos, (vPub (vPop1 x0.fQ) ((vNext x0.fLast (x0.fFl.map (·.fId))).1) false).fRetain, (vPub (vPop1 x0.fQ) ((vNext x0.fLast (x0.fFl.map (·.fId))).1) false).fId, (vPub (vPop1 x0.fQ) ((vNext x0.fLast (x0.fFl.map (·.fId))).1) false).fTopic, (vPub (vPop1 x0.fQ) ((vNext x0.fLast (x0.fFl.map (·.fId))).1) false).fBody, (vPub (vPop1 x0.fQ) ((vNext x0.fLast (x0.fFl.map (·.fId))).1) false).fClient, (vPub (vPop1 x0.fQ) ((vNext x0.fLast (x0.fFl.map (·.fId))).1) false).fLevel, (vPub (vPop1 x0.fQ) ((vNext x0.fLast (x0.fFl.map (·.fId))).1) false).fClean, (vPub (vPop1 x0.fQ) ((vNext x0.fLast (x0.fFl.map (·.fId))).1) false).fKeep, (vPub (vPop1 x0.fQ) ((vNext x0.fLast (x0.fFl.map (·.fId))).1) false).fHasWill, (vPub (vPop1 x0.fQ) ((vNext x0.fLast (x0.fFl.map (·.fId))).1) false).fWTopic, (vPub (vPop1 x0.fQ) ((vNext x0.fLast (x0.fFl.map (·.fId))).1) false).fWBody, (vPub (vPop1 x0.fQ) ((vNext x0.fLast (x0.fFl.map (·.fId))).1) false).fWQos, (vPub (vPop1 x0.fQ) ((vNext x0.fLast (x0.fFl.map (·.fId))).1) false).fWRetain, (vPub (vPop1 x0.fQ) ((vNext x0.fLast (x0.fFl.map (·.fId))).1) false).fHasUser, (vPub (vPop1 x0.fQ) ((vNext x0.fLast (x0.fFl.map (·.fId))).1) false).fUser, (vPub (vPop1 x0.fQ) ((vNext x0.fLast (x0.fFl.map (·.fId))).1) false).fHasPass, (vPub (vPop1 x0.fQ) ((vNext x0.fLast (x0.fFl.map (·.fId))).1) false).fPass, (vPub (vPop1 x0.fQ) ((vNext x0.fLast (x0.fFl.map (·.fId))).1) false).fCode, (vPub (vPop1 x0.fQ) ((vNext x0.fLast (x0.fFl.map (·.fId))).1) false).fPresent, ((vPub (vPop1 x0.fQ) ((vNext x0.fLast (x0.fFl.map (·.fId))).1) false).fWants), (vPub (vPop1 x0.fQ) ((vNext x0.fLast (x0.fFl.map (·.fId))).1) false).fNames, (vPub (vPop1 x0.fQ) ((vNext x0.fLast (x0.fFl.map (·.fId))).1) false).fCodes⟩ : PacketV) := by
   clear s0 s202 s203 s205 s207 s208 s216 s217 s218 s219
   try simp only [decide_eq_true_eq, decide_eq_false_iff_not, bne_iff_ne, beq_iff_eq, beq_eq_false_iff_ne] at h13 h21
   first | assumption | (simp only [vOutNext, vOutNextP, vNextId, h13, h21, if_true, if_false, Bool.false_eq_true]; first | done | rfl)
  have e222 : vReady x0 = true := by
   clear s0 s202 s203 s205 s207 s208 s216 s217 s218 s219
   try simp only [decide_eq_true_eq, decide_eq_false_iff_not, bne_iff_ne, beq_iff_eq, beq_eq_false_iff_ne] at h13 h21
   first | assumption | (simp only [vOutNext, vOutNextP, vNextId, h13, h21, if_true, if_false, Bool.false_eq_true]; first | done | rfl)
  rw [e220, e221, e222]
  first | done | rfl
 | y :: t, pre, m + 1, i, i10, i17, i5, i3, i1, a5, x14, x15, x7, x8, H, he, hi, hm, la5, lx14, lx15, lx7, lx8, s0 => by
  have hlt : pre.length < x0.fFl.length := by rw [he]; simp
  have hfl := fl_len x0 b0
  have hpb := pop_body x0 b0
  rw [f44_l0]
  try simp only [PR_box, PR_new, PR_newSl, PR_fadr, PR_load, PR_store, PR_bin, PR_binB, PR_binA, PR_un, PR_cond, PR_guard, PR_pick, PR_len, PR_lenS, PR_iadr, PR_idx, PR_slice, PR_sliceS, PR_fill, PR_make, PR_app, PR_appS, PR_cvI, PR_cvSS, PR_cvBS, PR_cvSB, PR_extr, PR_nil, PR_clear, PR_fld, PR_apart, PR_same]
  refine g_fadr (o' := 1) rfl ?_
  refine g_ld (c := rowsC encFlight x0.fFl) s0 (.there (.there (.there (.there (.there (.there (.there (.there (.there (.here)))))))))) rfl ?_
  refine g_len ?_
  refine g_lss ?_
  refine g_cT (by simp [hi]; omega) ?_
  refine g_fadr (o' := 1) rfl ?_
  refine g_ld (c := rowsC encFlight x0.fFl) s0 (.there (.there (.there (.there (.there (.there (.there (.there (.there (.here)))))))))) rfl ?_
  refine g_iadr hi lenFlight (by decide) he ?_
  refine g_fadrR ?_
  refine g_ldR (c := .sc (.int .i64 y.fId)) rfl ?_
  refine g_fill (cs := [.sc (.int .i64 y.fId)]) rfl ?_
  refine g_newSl s0 fun i201 H s202 => ?_
  refine g_appI1 s202 (.there (.here)) (.here) ⟨_, _, rfl, rfl, rfl, rfl⟩ rfl (by first | omega | (simp only [List.length_map]; omega)) fun x203 H lx203 s204 => ?_
  refine g_add (by omega) (by omega) ?_
  exact specF_OutNext_l0 n hn x0 k0 b0 h13 h21  t (pre ++ [y]) m _ i10 i17 i5 i3 i1 x203 x14 x15 x7 x8 _ (by rw [he]; simp) (by rw [hi]; simp) (by simpa using hm) lx203 lx14 lx15 lx7 lx8 (by simpa only [List.map_append, List.map_cons, List.map_nil] using (s204.sel (.cons (.here) (.cons (.here) (.cons (.here) (.cons (.here) (.cons (.here) (.cons (.here) (.cons (.here) (.cons (.here) (.cons (.here) (.cons (.here) .nil))))))))))))
theorem specF_OutNext (n : Nat) (hn : 1048576 < n) (x0 : OutV) (k0 : okOut x0) (b0 : wtOut x0 ≤ 1048576) : tree E0 (n + 13) 76 44 [.agg (encOut x0)] = some (.tup [.agg (encOut (vOutNext x0)), .agg (encPacket (vOutNextP x0)), .sc (.bool (vReady x0))]) := by
 rw [tree_def, f44_eq, f44]
 refine tree_gd (G := (· = some (.tup [.agg (encOut (vOutNext x0)), .agg (encPacket (vOutNextP x0)), .sc (.bool (vReady x0))]))) ?_
 have hfl := fl_len x0 b0
 have hpb := pop_body x0 b0
 try simp only [PR_box, PR_new, PR_newSl, PR_fadr, PR_load, PR_store, PR_bin, PR_binB, PR_binA, PR_un, PR_cond, PR_guard, PR_pick, PR_len, PR_lenS, PR_iadr, PR_idx, PR_slice, PR_sliceS, PR_fill, PR_make, PR_app, PR_appS, PR_cvI, PR_cvSS, PR_cvBS, PR_cvSB, PR_extr, PR_nil, PR_clear, PR_fld, PR_apart, PR_same]
 have s0 : Sep [] [] := sep_nil
 refine g_box s0 (cells_fl (flOut _)) fun i1 H s2 => ?_
 refine g_new s2 fun i3 H s4 => ?_
 refine g_new s4 fun i5 H s6 => ?_
 refine g_ldW s6 (.there (.there (.here))) rfl ?_
 refine g_callA s6 rfl (.aggF (flOut _) .nil) (l13CopyF (n + 8) (by omega) x0 (smOC x0 b0)) ⟨_, rfl, rfl⟩ (ins_sc (ins_ro (ty := 30) rfl (okRFlight x0.fFl) (ins_ro (ty := 31) rfl (okRMsg x0.fQ) ins_nil))) ?_
 rintro _ _ H ⟨_, rfl, ⟨x8, _, _, lx8, rfl, rfl, ⟨x7, _, _, lx7, rfl, rfl, ⟨rfl, rfl⟩⟩⟩⟩ s9
 simp only [List.nil_append, List.cons_append] at s9
 refine g_new s9 fun i10 H s11 => ?_
 refine g_st (cs' := [.sc (.int .i64 x0.fLast), x8, x7]) s11 (.here) (cells_agg (lf_c rfl (lf_c lx8 (lf_c lx7 rfl)))) rfl (Nat.le_of_ble_eq_true rfl) rfl fun H s12 => ?_
 refine g_ldW s12 (.there (.there (.there (.there (.there (.here)))))) rfl ?_
 refine g_callS (v := (.bool (vReady x0))) s12 rfl (.aggF (flOut _) .nil) (specF_OutReady (n + 1) (by omega) x0 k0 b0) ?_
 refine g_not ?_
 refine w_split ((vReady x0)) (fun h13 => ?_) (fun h13 => ?_)
 ·refine g_cF (nF h13) ?_
  refine g_fadr (o' := 2) rfl ?_
  refine g_ld (c := rowsC encMsg x0.fQ) s12 (.there (.there (.there (.there (.there (.here)))))) rfl ?_
  refine g_callT s12 rfl (.cons .ro .nil) (specF_Pop (n + 8) (by omega) x0.fQ k0.2.2 (q_wt x0 b0)) rfl (ins_ro (ty := 31) rfl (okRMsg x0.fQ.tail) (ins_agg ⟨_, rfl, rfl⟩ (ins_sc (ins_ro (ty := 43) rfl (okB6 ((vPop1 x0.fQ).fBody)) (ins_sc (ins_sc ins_nil)))) (ins_sc ins_nil))) ?_
  rintro _ _ H ⟨x15, _, _, lx15, rfl, rfl, ⟨_, _, _, _, rfl, rfl, ⟨_, rfl, ⟨x14, _, _, lx14, rfl, rfl, ⟨_, rfl, ⟨_, rfl, ⟨rfl, rfl⟩⟩⟩⟩⟩, ⟨_, rfl, ⟨rfl, rfl⟩⟩⟩⟩ s16
  simp only [List.nil_append, List.cons_append] at s16
  refine g_extr (v := x15) rfl ?_
  refine g_extr (v := .agg [.sc (.string ((vPop1 x0.fQ).fTopic)), x14, .sc (.int .i64 ((vPop1 x0.fQ).fQos)), .sc (.bool (vPop1 x0.fQ).fRetain)]) rfl ?_
  refine g_extr (v := .sc (.bool (vPop2 x0.fQ))) rfl ?_
  refine g_new s16 fun i17 H s18 => ?_
  refine g_st (cs' := [.sc (.string ((vPop1 x0.fQ).fTopic)), x14, .sc (.int .i64 ((vPop1 x0.fQ).fQos)), .sc (.bool (vPop1 x0.fQ).fRetain)]) s18 (.here) (cells_agg (lf_c rfl (lf_c lx14 (lf_c rfl (lf_c rfl rfl))))) rfl (Nat.le_of_ble_eq_true rfl) rfl fun H s19 => ?_
  refine g_fadr (o' := 2) rfl ?_
  refine g_st (cs' := [.sc (.int .i64 x0.fLast), x8, x15]) s19 (.there (.there (.there (.here)))) (cells_leaf lx15) rfl (Nat.le_of_ble_eq_true rfl) rfl fun H s20 => ?_
  refine g_fadr (o' := 2) rfl ?_
  refine g_ld (c := .sc (.int .i64 ((vPop1 x0.fQ).fQos))) s20 (.there (.here)) rfl ?_
  refine g_eql ?_
  refine w_split ((decide (((vPop1 x0.fQ).fQos) = 0))) (fun h21 => ?_) (fun h21 => ?_)
  ·refine g_cT h21 ?_
   refine g_ldW s20 (.here) rfl ?_
   refine g_ldW s20 (.there (.here)) rfl ?_
   have c22 := specPubF (n + 11) (by omega) (vPop1 x0.fQ) 0 false hpb
   refine g_callA s20 rfl (.agg (.cons .sc (.cons (.own (by decide) (.there (.there (.here)))) (.cons .sc (.cons .sc .nil)))) (.cons .sc (.cons .sc .nil))) (c22) ⟨_, rfl, rfl⟩ (ins_sc (ins_sc (ins_sc (ins_sc (ins_sc (ins_sc (ins_ro (ty := 43) rfl (okB6 ((vPub (vPop1 x0.fQ) 0 false).fBody)) (ins_sc (ins_sc (ins_sc (ins_sc (ins_sc (ins_sc (ins_ro (ty := 43) rfl (okB6 ((vPub (vPop1 x0.fQ) 0 false).fWBody)) (ins_sc (ins_sc (ins_sc (ins_sc (ins_sc (ins_ro (ty := 43) rfl (okB6 ((vPub (vPop1 x0.fQ) 0 false).fPass)) (ins_sc (ins_sc (ins_ro (ty := 72) rfl (okRWant ((vPub (vPop1 x0.fQ) 0 false).fWants)) (ins_ro (ty := 73) rfl (okS6 ((vPub (vPop1 x0.fQ) 0 false).fNames)) (ins_ro (ty := 26) rfl (okI6 ((vPub (vPop1 x0.fQ) 0 false).fCodes)) ins_nil))))))))))))))))))))))))) ?_
   rintro _ _ H ⟨_, rfl, ⟨_, rfl, ⟨_, rfl, ⟨_, rfl, ⟨_, rfl, ⟨_, rfl, ⟨x28, _, _, lx28, rfl, rfl, ⟨_, rfl, ⟨_, rfl, ⟨_, rfl, ⟨_, rfl, ⟨_, rfl, ⟨_, rfl, ⟨x27, _, _, lx27, rfl, rfl, ⟨_, rfl, ⟨_, rfl, ⟨_, rfl, ⟨_, rfl, ⟨_, rfl, ⟨x26, _, _, lx26, rfl, rfl, ⟨_, rfl, ⟨_, rfl, ⟨x25, _, _, lx25, rfl, rfl, ⟨x24, _, _, lx24, rfl, rfl, ⟨x23, _, _, lx23, rfl, rfl, ⟨rfl, rfl⟩⟩⟩⟩⟩⟩⟩⟩⟩⟩⟩⟩⟩⟩⟩⟩⟩⟩⟩⟩⟩⟩⟩⟩⟩⟩ s29
   simp only [List.nil_append, List.cons_append] at s29
   refine g_st (cs' := [.sc (.int .i64 x0.fLast), x8, x15]) s29 (.there (.there (.there (.there (.there (.there (.there (.there (.there (.there (.there (.there (.there (.here)))))))))))))) (cells_agg (lf_c rfl (lf_c lx8 (lf_c lx15 rfl)))) rfl (Nat.le_of_ble_eq_true rfl) rfl fun H s30 => ?_
   refine g_st (cs' := [.sc (.int .i64 ((vPub (vPop1 x0.fQ) 0 false).fType)), .sc (.bool (vPub (vPop1 x0.fQ) 0 false).fDup), .sc (.int .i64 ((vPub (vPop1 x0.fQ) 0 false).fQos)), .sc (.bool (vPub (vPop1 x0.fQ) 0 false).fRetain), .sc (.int .i64 ((vPub (vPop1 x0.fQ) 0 false).fId)), .sc (.string ((vPub (vPop1 x0.fQ) 0 false).fTopic)), x28, .sc (.string ((vPub (vPop1 x0.fQ) 0 false).fClient)), .sc (.int .i64 ((vPub (vPop1 x0.fQ) 0 false).fLevel)), .sc (.bool (vPub (vPop1 x0.fQ) 0 false).fClean), .sc (.int .i64 ((vPub (vPop1 x0.fQ) 0 false).fKeep)), .sc (.bool (vPub (vPop1 x0.fQ) 0 false).fHasWill), .sc (.string ((vPub (vPop1 x0.fQ) 0 false).fWTopic)), x27, .sc (.int .i64 ((vPub (vPop1 x0.fQ) 0 false).fWQos)), .sc (.bool (vPub (vPop1 x0.fQ) 0 false).fWRetain), .sc (.bool (vPub (vPop1 x0.fQ) 0 false).fHasUser), .sc (.string ((vPub (vPop1 x0.fQ) 0 false).fUser)), .sc (.bool (vPub (vPop1 x0.fQ) 0 false).fHasPass), x26, .sc (.int .i64 ((vPub (vPop1 x0.fQ) 0 false).fCode)), .sc (.bool (vPub (vPop1 x0.fQ) 0 false).fPresent), x25, x24, x23]) s30 (.there (.there (.there (.there (.there (.there (.there (.there (.there (.there (.there (.there (.there (.here)))))))))))))) (cells_agg (lf_c rfl (lf_c rfl (lf_c rfl (lf_c rfl (lf_c rfl (lf_c rfl (lf_c lx28 (lf_c rfl (lf_c rfl (lf_c rfl (lf_c rfl (lf_c rfl (lf_c rfl (lf_c lx27 (lf_c rfl (lf_c rfl (lf_c rfl (lf_c rfl (lf_c rfl (lf_c lx26 (lf_c rfl (lf_c rfl (lf_c lx25 (lf_c lx24 (lf_c lx23 rfl)))))))))))))))))))))))))) rfl (Nat.le_of_ble_eq_true rfl) rfl fun H s31 => ?_
   refine g_ldW s31 (.there (.here)) rfl ?_
   refine g_ldW s31 (.here) rfl ?_
   refine g_ret (ret_tup s31 rfl (.agg ⟨_, rfl, rfl⟩ (.sc (.own (.there (.there (.there (.there (.there (.there (.there (.there (.there (.there (.there (.there (.there (.here)))))))))))))) (.own (.there (.there (.there (.there (.there (.there (.there (.there (.there (.there (.there (.here)))))))))))) .nil))) (.agg ⟨_, rfl, rfl⟩ (.sc (.sc (.sc (.sc (.sc (.sc (.own (.there (.there (.there (.there (.there (.there (.there (.here)))))))) (.sc (.sc (.sc (.sc (.sc (.sc (.own (.there (.there (.there (.there (.there (.there (.here))))))) (.sc (.sc (.sc (.sc (.sc (.own (.there (.there (.there (.there (.there (.here)))))) (.sc (.sc (.own (.there (.there (.there (.there (.here))))) (.own (.there (.there (.there (.here)))) (.own (.there (.there (.here))) .nil))))))))))))))))))))))))) (.sc .nil))) ⟨(okAg ⟨_, rfl, rfl⟩ ⟨trivial, ⟨(okW_le (okRFlight x0.fFl) (by decide)), ⟨(okW_le (okRMsg x0.fQ.tail) (by decide)), trivial⟩⟩⟩), ⟨(okAg ⟨_, rfl, rfl⟩ ⟨trivial, ⟨trivial, ⟨trivial, ⟨trivial, ⟨trivial, ⟨trivial, ⟨(okW_le (okB6 ((vPub (vPop1 x0.fQ) 0 false).fBody)) (by decide)), ⟨trivial, ⟨trivial, ⟨trivial, ⟨trivial, ⟨trivial, ⟨trivial, ⟨(okW_le (okB6 ((vPub (vPop1 x0.fQ) 0 false).fWBody)) (by decide)), ⟨trivial, ⟨trivial, ⟨trivial, ⟨trivial, ⟨trivial, ⟨(okW_le (okB6 ((vPub (vPop1 x0.fQ) 0 false).fPass)) (by decide)), ⟨trivial, ⟨trivial, ⟨(okW_le (okRWant ((vPub (vPop1 x0.fQ) 0 false).fWants)) (by decide)), ⟨(okW_le (okS6 ((vPub (vPop1 x0.fQ) 0 false).fNames)) (by decide)), ⟨(okW_le (okI6 ((vPub (vPop1 x0.fQ) 0 false).fCodes)) (by decide)), trivial⟩⟩⟩⟩⟩⟩⟩⟩⟩⟩⟩⟩⟩⟩⟩⟩⟩⟩⟩⟩⟩⟩⟩⟩⟩), ⟨trivial, trivial⟩⟩⟩) ?_
   have e32 : vOutNext x0 = (⟨x0.fLast, x0.fFl, x0.fQ.tail⟩ : OutV) := by
    clear s0 s2 s4 s6 s9 s11 s12 s16 s18 s19 s20 s29 s30 s31
    try simp only [decide_eq_true_eq, decide_eq_false_iff_not, bne_iff_ne, beq_iff_eq, beq_eq_false_iff_ne] at h13 h21
    first | assumption | (simp only [vOutNext, vOutNextP, vNextId, h13, h21, if_true, if_false, Bool.false_eq_true]; first | done | rfl)
   have e33 : vOutNextP x0 = (⟨(vPub (vPop1 x0.fQ) 0 false).fType, (vPub (vPop1 x0.fQ) 0 false).fDup, (vPub (vPop1 x0.fQ) 0 false).fQos, (vPub (vPop1 x0.fQ) 0 false).fRetain, (vPub (vPop1 x0.fQ) 0 false).fId, (vPub (vPop1 x0.fQ) 0 false).fTopic, (vPub (vPop1 x0.fQ) 0 false).fBody, (vPub (vPop1 x0.fQ) 0 false).fClient, (vPub (vPop1 x0.fQ) 0 false).fLevel, (vPub (vPop1 x0.fQ) 0 false).fClean, (vPub (vPop1 x0.fQ) 0 false).fKeep, (vPub (vPop1 x0.fQ) 0 false).fHasWill, (vPub (vPop1 x0.fQ) 0 false).fWTopic, (vPub (vPop1 x0.fQ) 0 false).fWBody, (vPub (vPop1 x0.fQ) 0 false).fWQos, (vPub (vPop1 x0.fQ) 0 false).fWRetain, (vPub (vPop1 x0.fQ) 0 false).fHasUser, (vPub (vPop1 x0.fQ) 0 false).fUser, (vPub (vPop1 x0.fQ) 0 false).fHasPass, (vPub (vPop1 x0.fQ) 0 false).fPass, (vPub (vPop1 x0.fQ) 0 false).fCode, (vPub (vPop1 x0.fQ) 0 false).fPresent, ((vPub (vPop1 x0.fQ) 0 false).fWants), (vPub (vPop1 x0.fQ) 0 false).fNames, (vPub (vPop1 x0.fQ) 0 false).fCodes⟩ : PacketV) := by
    clear s0 s2 s4 s6 s9 s11 s12 s16 s18 s19 s20 s29 s30 s31
    try simp only [decide_eq_true_eq, decide_eq_false_iff_not, bne_iff_ne, beq_iff_eq, beq_eq_false_iff_ne] at h13 h21
    first | assumption | (simp only [vOutNext, vOutNextP, vNextId, h13, h21, if_true, if_false, Bool.false_eq_true]; first | done | rfl)
   have e34 : vReady x0 = true := by
    clear s0 s2 s4 s6 s9 s11 s12 s16 s18 s19 s20 s29 s30 s31
    try simp only [decide_eq_true_eq, decide_eq_false_iff_not, bne_iff_ne, beq_iff_eq, beq_eq_false_iff_ne] at h13 h21
    first | assumption | (simp only [vOutNext, vOutNextP, vNextId, h13, h21, if_true, if_false, Bool.false_eq_true]; first | done | rfl)
   rw [e32, e33, e34]
   first | done | rfl
  ·refine g_cF h21 ?_
   have s35 := s20.nl (ty := 26) ⟨_, _, rfl, rfl⟩
   exact specF_OutNext_l0 n hn x0 k0 b0 h13 h21  x0.fFl [] _ 0 i10 i17 i5 i3 i1 .nl x14 x15 x7 x8 _ rfl rfl (by omega) rfl lx14 lx15 lx7 lx8 s35
 ·refine g_cT (nT h13) ?_
  refine g_ldW s12 (.here) rfl ?_
  refine g_fill (cs := [.sc (.int .i64 0), .sc (.bool false), .sc (.int .i64 0), .sc (.bool false), .sc (.int .i64 0), .sc (.string (⟨#[]⟩)), .nl, .sc (.string (⟨#[]⟩)), .sc (.int .i64 0), .sc (.bool false), .sc (.int .i64 0), .sc (.bool false), .sc (.string (⟨#[]⟩)), .nl, .sc (.int .i64 0), .sc (.bool false), .sc (.bool false), .sc (.string (⟨#[]⟩)), .sc (.bool false), .nl, .sc (.int .i64 0), .sc (.bool false), .nl, .nl, .nl]) rfl ?_
  refine g_st (cs' := [.sc (.int .i64 x0.fLast), x8, x7]) s12 (.there (.there (.there (.there (.here))))) (cells_agg (lf_c rfl (lf_c lx8 (lf_c lx7 rfl)))) rfl (Nat.le_of_ble_eq_true rfl) rfl fun H s36 => ?_
  refine g_st (cs' := [.sc (.int .i64 0), .sc (.bool false), .sc (.int .i64 0), .sc (.bool false), .sc (.int .i64 0), .sc (.string (⟨#[]⟩)), .nl, .sc (.string (⟨#[]⟩)), .sc (.int .i64 0), .sc (.bool false), .sc (.int .i64 0), .sc (.bool false), .sc (.string (⟨#[]⟩)), .nl, .sc (.int .i64 0), .sc (.bool false), .sc (.bool false), .sc (.string (⟨#[]⟩)), .sc (.bool false), .nl, .sc (.int .i64 0), .sc (.bool false), .nl, .nl, .nl]) s36 (.there (.there (.there (.there (.here))))) (cells_agg (lf_c rfl (lf_c rfl (lf_c rfl (lf_c rfl (lf_c rfl (lf_c rfl (lf_c rfl (lf_c rfl (lf_c rfl (lf_c rfl (lf_c rfl (lf_c rfl (lf_c rfl (lf_c rfl (lf_c rfl (lf_c rfl (lf_c rfl (lf_c rfl (lf_c rfl (lf_c rfl (lf_c rfl (lf_c rfl (lf_c rfl (lf_c rfl (lf_c rfl rfl)))))))))))))))))))))))))) rfl (Nat.le_of_ble_eq_true rfl) rfl fun H s37 => ?_
  refine g_ldW s37 (.there (.here)) rfl ?_
  refine g_ldW s37 (.here) rfl ?_
  refine g_ret (ret_tup s37 rfl (.agg ⟨_, rfl, rfl⟩ (.sc (.own (.there (.there (.there (.there (.here))))) (.own (.there (.there (.there (.here)))) .nil))) (.agg ⟨_, rfl, rfl⟩ (.sc (.sc (.sc (.sc (.sc (.sc (.nl (.sc (.sc (.sc (.sc (.sc (.sc (.nl (.sc (.sc (.sc (.sc (.sc (.nl (.sc (.sc (.nl (.nl (.nl .nil))))))))))))))))))))))))) (.sc .nil))) ⟨(okAg ⟨_, rfl, rfl⟩ ⟨trivial, ⟨(okW_le (okRFlight x0.fFl) (by decide)), ⟨(okW_le (okRMsg x0.fQ) (by decide)), trivial⟩⟩⟩), ⟨(okAg ⟨_, rfl, rfl⟩ ⟨trivial, ⟨trivial, ⟨trivial, ⟨trivial, ⟨trivial, ⟨trivial, ⟨(okNl ⟨_, _, rfl, rfl⟩), ⟨trivial, ⟨trivial, ⟨trivial, ⟨trivial, ⟨trivial, ⟨trivial, ⟨(okNl ⟨_, _, rfl, rfl⟩), ⟨trivial, ⟨trivial, ⟨trivial, ⟨trivial, ⟨trivial, ⟨(okNl ⟨_, _, rfl, rfl⟩), ⟨trivial, ⟨trivial, ⟨(okNl ⟨_, _, rfl, rfl⟩), ⟨(okNl ⟨_, _, rfl, rfl⟩), ⟨(okNl ⟨_, _, rfl, rfl⟩), trivial⟩⟩⟩⟩⟩⟩⟩⟩⟩⟩⟩⟩⟩⟩⟩⟩⟩⟩⟩⟩⟩⟩⟩⟩⟩), ⟨trivial, trivial⟩⟩⟩) ?_
  have e38 : vOutNext x0 = (⟨x0.fLast, x0.fFl, x0.fQ⟩ : OutV) := by
   clear s0 s2 s4 s6 s9 s11 s12 s36 s37
   try simp only [decide_eq_true_eq, decide_eq_false_iff_not, bne_iff_ne, beq_iff_eq, beq_eq_false_iff_ne] at h13
   first | assumption | (simp only [vOutNext, vOutNextP, vNextId, h13, if_true, if_false, Bool.false_eq_true]; first | done | rfl)
  have e39 : vOutNextP x0 = (⟨0, false, 0, false, 0, ⟨#[]⟩, ⟨#[]⟩, ⟨#[]⟩, 0, false, 0, false, ⟨#[]⟩, ⟨#[]⟩, 0, false, false, ⟨#[]⟩, false, ⟨#[]⟩, 0, false, [], [], []⟩ : PacketV) := by
   clear s0 s2 s4 s6 s9 s11 s12 s36 s37
   try simp only [decide_eq_true_eq, decide_eq_false_iff_not, bne_iff_ne, beq_iff_eq, beq_eq_false_iff_ne] at h13
   first | assumption | (simp only [vOutNext, vOutNextP, vNextId, h13, if_true, if_false, Bool.false_eq_true]; first | done | rfl)
  have e40 : vReady x0 = false := by
   clear s0 s2 s4 s6 s9 s11 s12 s36 s37
   try simp only [decide_eq_true_eq, decide_eq_false_iff_not, bne_iff_ne, beq_iff_eq, beq_eq_false_iff_ne] at h13
   first | assumption | (simp only [vOutNext, vOutNextP, vNextId, h13, if_true, if_false, Bool.false_eq_true]; first | done | rfl)
  rw [e38, e39, e40]
  first | done | rfl
theorem implF_OutNext_l0 (n : Nat) (hn : 1048576 < n) (x0 : OutV) (k0 : okOut x0) (b0 : wtOut x0 ≤ 1048576) (h13 : (vReady x0) = true) (h21 : (decide (((vPop1 x0.fQ).fQos) = 0)) = false)  : ∀ (t pre : List FlightV) (m : Nat) (i : Int) (i10 i17 i5 i3 i1 : Nat) (a5 x14 x15 x7 x8 : AV) (H : Heap), x0.fFl = pre ++ t → i = ((pre.length : Nat) : Int) → t.length < m → isLeaf a5 = true → isLeaf x14 = true → isLeaf x15 = true → isLeaf x7 = true → isLeaf x8 = true → Sep H [.own a5 26 (intsC (pre.map (·.fId))), .blk i10 [.sc (.int .i64 x0.fLast), x8, x15] true, .blk i17 [.sc (.string ((vPop1 x0.fQ).fTopic)), x14, .sc (.int .i64 ((vPop1 x0.fQ).fQos)), .sc (.bool (vPop1 x0.fQ).fRetain)] true, .own x14 43 (bytesC ((vPop1 x0.fQ).fBody)), .own x15 31 (rowsC encMsg x0.fQ.tail), .own x7 31 (rowsC encMsg x0.fQ), .own x8 30 (rowsC encFlight x0.fFl), .blk i5 [.sc (.int .i64 0), .sc (.bool false), .sc (.int .i64 0), .sc (.bool false), .sc (.int .i64 0), .sc (.string (⟨#[]⟩)), .nl, .sc (.string (⟨#[]⟩)), .sc (.int .i64 0), .sc (.bool false), .sc (.int .i64 0), .sc (.bool false), .sc (.string (⟨#[]⟩)), .nl, .sc (.int .i64 0), .sc (.bool false), .sc (.bool false), .sc (.string (⟨#[]⟩)), .sc (.bool false), .nl, .sc (.int .i64 0), .sc (.bool false), .nl, .nl, .nl] true, .blk i3 [.sc (.int .i64 0), .nl, .nl] true, .blk i1 (encOut x0) true] → Gd (· = some (.tup [.agg (encOut (vOutNext x0)), .agg (encPacket (vOutNextP x0)), .sc (.bool (vReady x0))])) (f45_l0 (PR (n + 12) AV) (n + 12) (fun x H => ownTree ti0 E0.tp 76 H x) m (.ptr i1 0) (.ptr i3 0) (.ptr i5 0) (.ptr i10 0) (.ptr i17 0) (a5) (rowsC encFlight x0.fFl) (.sc (.int .i64 ((x0.fFl.length : Nat) : Int))) (.sc (.int .i64 i)) H)
 | [], pre, m + 1, i, i10, i17, i5, i3, i1, a5, x14, x15, x7, x8, H, he, hi, hm, la5, lx14, lx15, lx7, lx8, s0 => by
  obtain rfl : pre = x0.fFl := by simpa using he.symm
  have hfl := fl_len x0 b0
  have hpb := pop_body x0 b0
  rw [f45_l0]
  try simp only [PR_box, PR_new, PR_newSl, PR_fadr, PR_load, PR_store, PR_bin, PR_binB, PR_binA, PR_un, PR_cond, PR_guard, PR_pick, PR_len, PR_lenS, PR_iadr, PR_idx, PR_slice, PR_sliceS, PR_fill, PR_make, PR_app, PR_appS, PR_cvI, PR_cvSS, PR_cvBS, PR_cvSB, PR_extr, PR_nil, PR_clear, PR_fld, PR_apart, PR_same]
  refine g_lss ?_
  refine g_cF (by simp [hi]) ?_
  refine g_fadr (o' := 0) rfl ?_
  refine g_ld (c := .sc (.int .i64 x0.fLast)) s0 (.there (.there (.there (.there (.there (.there (.there (.there (.there (.here)))))))))) rfl ?_
  have c201 := implNextF (n + 9) (by omega) 131 ⟨_, _, rfl⟩ x0.fLast (x0.fFl.map (·.fId)) (by rw [List.length_map]; omega)
  refine g_callT s0 rfl (.cons .sc (.cons (.own (by decide) (.here)) .nil)) (c201) rfl (ins_sc (ins_sc ins_nil)) ?_
  rintro _ _ H ⟨_, rfl, ⟨_, rfl, ⟨rfl, rfl⟩⟩⟩ s202
  simp only [List.nil_append] at s202
  refine g_extr (v := .sc (.int .i64 ((vNext x0.fLast (x0.fFl.map (·.fId))).1))) rfl ?_
  refine g_extr (v := .sc (.bool (vNext x0.fLast (x0.fFl.map (·.fId))).2)) rfl ?_
  refine g_fadr (o' := 0) rfl ?_
  refine g_st (cs' := [.sc (.int .i64 ((vNext x0.fLast (x0.fFl.map (·.fId))).1)), x8, x15]) s202 (.there (.here)) (cells_leaf rfl) rfl (Nat.le_of_ble_eq_true rfl) rfl fun H s203 => ?_
  refine g_fadr (o' := 1) rfl ?_
  refine g_ld (c := x8) s203 (.here) rfl ?_
  refine g_ldW s203 (.there (.there (.here))) rfl ?_
  refine g_fadr (o' := 2) rfl ?_
  refine g_ld (c := .sc (.int .i64 ((vPop1 x0.fQ).fQos))) s203 (.there (.there (.here))) rfl ?_
  refine g_fill (cs := [.sc (.int .i64 ((vNext x0.fLast (x0.fFl.map (·.fId))).1)), .sc (.string ((vPop1 x0.fQ).fTopic)), x14, .sc (.int .i64 ((vPop1 x0.fQ).fQos)), .sc (.bool (vPop1 x0.fQ).fRetain), .sc (.int .i64 ((vPop1 x0.fQ).fQos))]) (fill_c (z' := [.sc (.int .i64 ((vNext x0.fLast (x0.fFl.map (·.fId))).1)), .sc (.string (⟨#[]⟩)), .nl, .sc (.int .i64 0), .sc (.bool false), .sc (.int .i64 0)]) (cells_leaf rfl) rfl (Nat.le_of_ble_eq_true rfl) rfl (fill_c (z' := [.sc (.int .i64 ((vNext x0.fLast (x0.fFl.map (·.fId))).1)), .sc (.string ((vPop1 x0.fQ).fTopic)), x14, .sc (.int .i64 ((vPop1 x0.fQ).fQos)), .sc (.bool (vPop1 x0.fQ).fRetain), .sc (.int .i64 0)]) (cells_agg (lf_c rfl (lf_c lx14 (lf_c rfl (lf_c rfl rfl))))) rfl (Nat.le_of_ble_eq_true rfl) rfl (fill_c (z' := [.sc (.int .i64 ((vNext x0.fLast (x0.fFl.map (·.fId))).1)), .sc (.string ((vPop1 x0.fQ).fTopic)), x14, .sc (.int .i64 ((vPop1 x0.fQ).fQos)), .sc (.bool (vPop1 x0.fQ).fRetain), .sc (.int .i64 ((vPop1 x0.fQ).fQos))]) (cells_leaf rfl) rfl (Nat.le_of_ble_eq_true rfl) rfl (rfl)))) ?_
  refine g_fill (cs := [.sc (.int .i64 ((vNext x0.fLast (x0.fFl.map (·.fId))).1)), .sc (.string ((vPop1 x0.fQ).fTopic)), x14, .sc (.int .i64 ((vPop1 x0.fQ).fQos)), .sc (.bool (vPop1 x0.fQ).fRetain), .sc (.int .i64 ((vPop1 x0.fQ).fQos))]) (fill_c (z' := [.sc (.int .i64 ((vNext x0.fLast (x0.fFl.map (·.fId))).1)), .sc (.string ((vPop1 x0.fQ).fTopic)), x14, .sc (.int .i64 ((vPop1 x0.fQ).fQos)), .sc (.bool (vPop1 x0.fQ).fRetain), .sc (.int .i64 ((vPop1 x0.fQ).fQos))]) (cells_agg (lf_c rfl (lf_c rfl (lf_c lx14 (lf_c rfl (lf_c rfl (lf_c rfl rfl))))))) rfl (Nat.le_of_ble_eq_true rfl) rfl (rfl)) ?_
  refine g_newSl s203 fun i204 H s205 => ?_
  refine g_appRK (cty := [3, 9, 43, 3, 4, 3]) (e := (⟨(vNext x0.fLast (x0.fFl.map (·.fId))).1, ⟨(vPop1 x0.fQ).fTopic, (vPop1 x0.fQ).fBody, (vPop1 x0.fQ).fQos, (vPop1 x0.fQ).fRetain⟩, (vPop1 x0.fQ).fQos⟩ : FlightV)) (k := 2) s205 ⟨_, _, rfl, rfl, rfl, rfl⟩ (.there (.there (.there (.there (.there (.there (.there (.here)))))))) (.here) rfl (lf_c rfl (lf_c rfl (lf_c lx14 (lf_c rfl (lf_c rfl (lf_c rfl rfl)))))) (.sc (.sc (.own (.there (.there (.there (.here)))) (.sc (.sc (.sc .nil)))))) ⟨trivial, ⟨trivial, ⟨(okB5 ((vPop1 x0.fQ).fBody)), ⟨trivial, ⟨trivial, ⟨trivial, trivial⟩⟩⟩⟩⟩⟩ rfl (by omega) lenFlight rfl rfl rfl rfl (okB6 ((vPop1 x0.fQ).fBody)) fun x206 H lx206 s207 => ?_
  refine g_fadr (o' := 1) rfl ?_
  refine g_st (cs' := [.sc (.int .i64 ((vNext x0.fLast (x0.fFl.map (·.fId))).1)), x206, x15]) s207 (.there (.here)) (cells_leaf lx206) rfl (Nat.le_of_ble_eq_true rfl) rfl fun H s208 => ?_
  refine g_ldW s208 (.here) rfl ?_
  refine g_ldW s208 (.there (.there (.there (.here)))) rfl ?_
  have c209 := implPubF (n + 10) (by omega) (vPop1 x0.fQ) ((vNext x0.fLast (x0.fFl.map (·.fId))).1) false hpb
  refine g_callA s208 rfl (.agg (.cons .sc (.cons (.shr (by decide) (.there (.here))) (.cons .sc (.cons .sc .nil)))) (.cons .sc (.cons .sc .nil))) (c209) ⟨_, rfl, rfl⟩ (ins_sc (ins_sc (ins_sc (ins_sc (ins_sc (ins_sc (ins_ro (ty := 43) rfl (okB6 ((vPub (vPop1 x0.fQ) ((vNext x0.fLast (x0.fFl.map (·.fId))).1) false).fBody)) (ins_sc (ins_sc (ins_sc (ins_sc (ins_sc (ins_sc (ins_ro (ty := 43) rfl (okB6 ((vPub (vPop1 x0.fQ) ((vNext x0.fLast (x0.fFl.map (·.fId))).1) false).fWBody)) (ins_sc (ins_sc (ins_sc (ins_sc (ins_sc (ins_ro (ty := 43) rfl (okB6 ((vPub (vPop1 x0.fQ) ((vNext x0.fLast (x0.fFl.map (·.fId))).1) false).fPass)) (ins_sc (ins_sc (ins_ro (ty := 72) rfl (okRWant ((vPub (vPop1 x0.fQ) ((vNext x0.fLast (x0.fFl.map (·.fId))).1) false).fWants)) (ins_ro (ty := 73) rfl (okS6 ((vPub (vPop1 x0.fQ) ((vNext x0.fLast (x0.fFl.map (·.fId))).1) false).fNames)) (ins_ro (ty := 26) rfl (okI6 ((vPub (vPop1 x0.fQ) ((vNext x0.fLast (x0.fFl.map (·.fId))).1) false).fCodes)) ins_nil))))))))))))))))))))))))) ?_
  rintro _ _ H ⟨_, rfl, ⟨_, rfl, ⟨_, rfl, ⟨_, rfl, ⟨_, rfl, ⟨_, rfl, ⟨x215, _, _, lx215, rfl, rfl, ⟨_, rfl, ⟨_, rfl, ⟨_, rfl, ⟨_, rfl, ⟨_, rfl, ⟨_, rfl, ⟨x214, _, _, lx214, rfl, rfl, ⟨_, rfl, ⟨_, rfl, ⟨_, rfl, ⟨_, rfl, ⟨_, rfl, ⟨x213, _, _, lx213, rfl, rfl, ⟨_, rfl, ⟨_, rfl, ⟨x212, _, _, lx212, rfl, rfl, ⟨x211, _, _, lx211, rfl, rfl, ⟨x210, _, _, lx210, rfl, rfl, ⟨rfl, rfl⟩⟩⟩⟩⟩⟩⟩⟩⟩⟩⟩⟩⟩⟩⟩⟩⟩⟩⟩⟩⟩⟩⟩⟩⟩⟩ s216
  simp only [List.nil_append, List.cons_append] at s216
  refine g_st (cs' := [.sc (.int .i64 ((vNext x0.fLast (x0.fFl.map (·.fId))).1)), x206, x15]) s216 (.there (.there (.there (.there (.there (.there (.there (.there (.there (.there (.there (.there (.there (.here)))))))))))))) (cells_agg (lf_c rfl (lf_c lx206 (lf_c lx15 rfl)))) rfl (Nat.le_of_ble_eq_true rfl) rfl fun H s217 => ?_
  refine g_st (cs' := [.sc (.int .i64 ((vPub (vPop1 x0.fQ) ((vNext x0.fLast (x0.fFl.map (·.fId))).1) false).fType)), .sc (.bool (vPub (vPop1 x0.fQ) ((vNext x0.fLast (x0.fFl.map (·.fId))).1) false).fDup), .sc (.int .i64 ((vPub (vPop1 x0.fQ) ((vNext x0.fLast (x0.fFl.map (·.fId))).1) false).fQos)), .sc (.bool (vPub (vPop1 x0.fQ) ((vNext x0.fLast (x0.fFl.map (·.fId))).1) false).fRetain), .sc (.int .i64 ((vPub (vPop1 x0.fQ) ((vNext x0.fLast (x0.fFl.map (·.fId))).1) false).fId)), .sc (.string ((vPub (vPop1 x0.fQ) ((vNext x0.fLast (x0.fFl.map (·.fId))).1) false).fTopic)), x215, .sc (.string ((vPub (vPop1 x0.fQ) ((vNext x0.fLast (x0.fFl.map (·.fId))).1) false).fClient)), .sc (.int .i64 ((vPub (vPop1 x0.fQ) ((vNext x0.fLast (x0.fFl.map (·.fId))).1) false).fLevel)), .sc (.bool (vPub (vPop1 x0.fQ) ((vNext x0.fLast (x0.fFl.map (·.fId))).1) false).fClean), .sc (.int .i64 ((vPub (vPop1 x0.fQ) ((vNext x0.fLast (x0.fFl.map (·.fId))).1) false).fKeep)), .sc (.bool (vPub (vPop1 x0.fQ) ((vNext x0.fLast (x0.fFl.map (·.fId))).1) false).fHasWill), .sc (.string ((vPub (vPop1 x0.fQ) ((vNext x0.fLast (x0.fFl.map (·.fId))).1) false).fWTopic)), x214, .sc (.int .i64 ((vPub (vPop1 x0.fQ) ((vNext x0.fLast (x0.fFl.map (·.fId))).1) false).fWQos)), .sc (.bool (vPub (vPop1 x0.fQ) ((vNext x0.fLast (x0.fFl.map (·.fId))).1) false).fWRetain), .sc (.bool (vPub (vPop1 x0.fQ) ((vNext x0.fLast (x0.fFl.map (·.fId))).1) false).fHasUser), .sc (.string ((vPub (vPop1 x0.fQ) ((vNext x0.fLast (x0.fFl.map (·.fId))).1) false).fUser)), .sc (.bool (vPub (vPop1 x0.fQ) ((vNext x0.fLast (x0.fFl.map (·.fId))).1) false).fHasPass), x213, .sc (.int .i64 ((vPub (vPop1 x0.fQ) ((vNext x0.fLast (x0.fFl.map (·.fId))).1) false).fCode)), .sc (.bool (vPub (vPop1 x0.fQ) ((vNext x0.fLast (x0.fFl.map (·.fId))).1) false).fPresent), x212, x211, x210]) s217 (.there (.there (.there (.there (.there (.there (.there (.there (.there (.there (.there (.there (.there (.here)))))))))))))) (cells_agg (lf_c rfl (lf_c rfl (lf_c rfl (lf_c rfl (lf_c rfl (lf_c rfl (lf_c lx215 (lf_c rfl (lf_c rfl (lf_c rfl (lf_c rfl (lf_c rfl (lf_c rfl (lf_c lx214 (lf_c rfl (lf_c rfl (lf_c rfl (lf_c rfl (lf_c rfl (lf_c lx213 (lf_c rfl (lf_c rfl (lf_c lx212 (lf_c lx211 (lf_c lx210 rfl)))))))))))))))))))))))))) rfl (Nat.le_of_ble_eq_true rfl) rfl fun H s218 => ?_
  refine g_ldW s218 (.there (.here)) rfl ?_
  refine g_ldW s218 (.here) rfl ?_
  have s219 := s218.forget (.there (.there (.there (.there (.there (.there (.there (.there (.there (.here))))))))))
  refine g_ret (ret_tup s219 rfl (.agg ⟨_, rfl, rfl⟩ (.sc (.own (.here) (.own (.there (.there (.there (.there (.there (.there (.there (.there (.there (.there (.there (.here)))))))))))) .nil))) (.agg ⟨_, rfl, rfl⟩ (.sc (.sc (.sc (.sc (.sc (.sc (.own (.there (.there (.there (.there (.there (.there (.there (.here)))))))) (.sc (.sc (.sc (.sc (.sc (.sc (.own (.there (.there (.there (.there (.there (.there (.here))))))) (.sc (.sc (.sc (.sc (.sc (.own (.there (.there (.there (.there (.there (.here)))))) (.sc (.sc (.own (.there (.there (.there (.there (.here))))) (.own (.there (.there (.there (.here)))) (.own (.there (.there (.here))) .nil))))))))))))))))))))))))) (.sc .nil))) ⟨(okAg ⟨_, rfl, rfl⟩ ⟨trivial, ⟨(okW_le (okRFlight (x0.fFl ++ [⟨(vNext x0.fLast (x0.fFl.map (·.fId))).1, ⟨(vPop1 x0.fQ).fTopic, (vPop1 x0.fQ).fBody, (vPop1 x0.fQ).fQos, (vPop1 x0.fQ).fRetain⟩, (vPop1 x0.fQ).fQos⟩])) (by decide)), ⟨(okW_le (okRMsg x0.fQ.tail) (by decide)), trivial⟩⟩⟩), ⟨(okAg ⟨_, rfl, rfl⟩ ⟨trivial, ⟨trivial, ⟨trivial, ⟨trivial, ⟨trivial, ⟨trivial, ⟨(okW_le (okB6 ((vPub (vPop1 x0.fQ) ((vNext x0.fLast (x0.fFl.map (·.fId))).1) false).fBody)) (by decide)), ⟨trivial, ⟨trivial, ⟨trivial, ⟨trivial, ⟨trivial, ⟨trivial, ⟨(okW_le (okB6 ((vPub (vPop1 x0.fQ) ((vNext x0.fLast (x0.fFl.map (·.fId))).1) false).fWBody)) (by decide)), ⟨trivial, ⟨trivial, ⟨trivial, ⟨trivial, ⟨trivial, ⟨(okW_le (okB6 ((vPub (vPop1 x0.fQ) ((vNext x0.fLast (x0.fFl.map (·.fId))).1) false).fPass)) (by decide)), ⟨trivial, ⟨trivial, ⟨(okW_le (okRWant ((vPub (vPop1 x0.fQ) ((vNext x0.fLast (x0.fFl.map (·.fId))).1) false).fWants)) (by decide)), ⟨(okW_le (okS6 ((vPub (vPop1 x0.fQ) ((vNext x0.fLast (x0.fFl.map (·.fId))).1) false).fNames)) (by decide)), ⟨(okW_le (okI6 ((vPub (vPop1 x0.fQ) ((vNext x0.fLast (x0.fFl.map (·.fId))).1) false).fCodes)) (by decide)), trivial⟩⟩⟩⟩⟩⟩⟩⟩⟩⟩⟩⟩⟩⟩⟩⟩⟩⟩⟩⟩⟩⟩⟩⟩⟩), ⟨trivial, trivial⟩⟩⟩) ?_
  have e220 : vOutNext x0 = (⟨(vNext x0.fLast (x0.fFl.map (·.fId))).1, (x0.fFl ++ [⟨(vNext x0.fLast (x0.fFl.map (·.fId))).1, ⟨(vPop1 x0.fQ).fTopic, (vPop1 x0.fQ).fBody, (vPop1 x0.fQ).fQos, (vPop1 x0.fQ).fRetain⟩, (vPop1 x0.fQ).fQos⟩]), x0.fQ.tail⟩ : OutV) := by
   clear s0 s202 s203 s205 s207 s208 s216 s217 s218 s219
   try simp only [decide_eq_true_eq, decide_eq_false_iff_not, bne_iff_ne, beq_iff_eq, beq_eq_false_iff_ne] at h13 h21
   first | assumption | (simp only [vOutNext, vOutNextP, vNextId, h13, h21, if_true, if_false, Bool.false_eq_true]; first | done | rfl)
  have e221 : vOutNextP x0 = (⟨(vPub (vPop1 x0.fQ) ((vNext x0.fLast (x0.fFl.map (·.fId))).1) false).fType, (vPub (vPop1 x0.fQ) ((vNext x0.fLast (x0.fFl.map (·.fId))).1) false).fDup, (vPub (vPop1 x0.fQ) ((vNext x0.fLast (x0.fFl.map (·.fId))).1) false).fQos, (vPub (vPop1 x0.fQ) ((vNext x0.fLast (x0.fFl.map (·.fId))).1) false).fRetain, (vPub (vPop1 x0.fQ) ((vNext x0.fLast (x0.fFl.map (·.fId))).1) false).fId, (vPub (vPop1 x0.fQ) ((vNext x0.fLast (x0.fFl.map (·.fId))).1) false).fTopic, (vPub (vPop1 x0.fQ) ((vNext x0.fLast (x0.fFl.map (·.fId))).1) false).fBody, (vPub (vPop1 x0.fQ) ((vNext x0.fLast (x0.fFl.map (·.fId))).1) false).fClient, (vPub (vPop1 x0.fQ) ((vNext x0.fLast (x0.fFl.map (·.fId))).1) false).fLevel, (vPub (vPop1 x0.fQ) ((vNext x0.fLast (x0.fFl.map (·.fId))).1) false).fClean, (vPub (vPop1 x0.fQ) ((vNext x0.fLast (x0.fFl.map (·.fId))).1) false).fKeep, (vPub (vPop1 x0.fQ) ((vNext x0.fLast (x0.fFl.map (·.fId))).1) false).fHasWill, (vPub (vPop1 x0.fQ) ((vNext x0.fLast (x0.fFl.map (·.fId))).1) false).fWTopic, (vPub (vPop1 x0.fQ) ((vNext x0.fLast (x0.fFl.map (·.fId))).1) false).fWBody, (vPub (vPop1 x0.fQ) ((vNext x0.fLast (x0.fFl.map (·.fId))).1) false).fWQos, (vPub (vPop1 x0.fQ) ((vNext x0.fLast (x0.fFl.map (·.fId))).1) false).fWRetain, (vPub (vPop1 x0.fQ) ((vNext x0.fLast (x0.fFl.map (·.fId))).1) false).fHasUser, (vPub (vPop1 x0.fQ) ((vNext x0.fLast (x0.fFl.map (·.fId))).1) false).fUser, (vPub (vPop1 x0.fQ) ((vNext x0.fLast (x0.fFl.map (·.fId))).1) false).fHasPass, (vPub (vPop1 x0.fQ) ((vNext x0.fLast (x0.fFl.map (·.fId))).1) false).fPass, (vPub (vPop1 x0.fQ) ((vNext x0.fLast (x0.fFl.map (·.fId))).1) false).fCode, (vPub (vPop1 x0.fQ) ((vNext x0.fLast (x0.fFl.map (·.fId))).1) false).fPresent, ((vPub (vPop1 x0.fQ) ((vNext x0.fLast (x0.fFl.map (·.fId))).1) false).fWants), (vPub (vPop1 x0.fQ) ((vNext x0.fLast (x0.fFl.map (·.fId))).1) false).fNames, (vPub (vPop1 x0.fQ) ((vNext x0.fLast (x0.fFl.map (·.fId))).1) false).fCodes⟩ : PacketV) := by
   clear s0 s202 s203 s205 s207 s208 s216 s217 s218 s219
   try simp only [decide_eq_true_eq, decide_eq_false_iff_not, bne_iff_ne, beq_iff_eq, beq_eq_false_iff_ne] at h13 h21
   first | assumption | (simp only [vOutNext, vOutNextP, vNextId, h13, h21, if_true, if_false, Bool.false_eq_true]; first | done | rfl)
  have e222 : vReady x0 = true := by
   clear s0 s202 s203 s205 s207 s208 s216 s217 s218 s219
   try simp only [decide_eq_true_eq, decide_eq_false_iff_not, bne_iff_ne, beq_iff_eq, beq_eq_false_iff_ne] at h13 h21
   first | assumption | (simp only [vOutNext, vOutNextP, vNextId, h13, h21, if_true, if_false, Bool.false_eq_true]; first | done | rfl)
  rw [e220, e221, e222]
  first | done | rfl
 | y :: t, pre, m + 1, i, i10, i17, i5, i3, i1, a5, x14, x15, x7, x8, H, he, hi, hm, la5, lx14, lx15, lx7, lx8, s0 => by
  have hlt : pre.length < x0.fFl.length := by rw [he]; simp
  have hfl := fl_len x0 b0
  have hpb := pop_body x0 b0
  rw [f45_l0]
  try simp only [PR_box, PR_new, PR_newSl, PR_fadr, PR_load, PR_store, PR_bin, PR_binB, PR_binA, PR_un, PR_cond, PR_guard, PR_pick, PR_len, PR_lenS, PR_iadr, PR_idx, PR_slice, PR_sliceS, PR_fill, PR_make, PR_app, PR_appS, PR_cvI, PR_cvSS, PR_cvBS, PR_cvSB, PR_extr, PR_nil, PR_clear, PR_fld, PR_apart, PR_same]
  refine g_lss ?_
  refine g_cT (by simp [hi]; omega) ?_
  refine g_iadr hi lenFlight (by decide) he ?_
  refine g_ldE (lenFlight _) ?_
  refine g_new s0 fun i201 H s202 => ?_
  refine g_st (cs' := encFlight y) s202 (.here) (cells_fl (flFlight _)) rfl (Nat.le_of_ble_eq_true rfl) rfl fun H s203 => ?_
  refine g_fadr (o' := 0) rfl ?_
  refine g_ld (c := .sc (.int .i64 y.fId)) s203 (.here) rfl ?_
  refine g_fill (cs := [.sc (.int .i64 y.fId)]) rfl ?_
  refine g_newSl s203 fun i204 H s205 => ?_
  refine g_appI1 s205 (.there (.there (.here))) (.here) ⟨_, _, rfl, rfl, rfl, rfl⟩ rfl (by first | omega | (simp only [List.length_map]; omega)) fun x206 H lx206 s207 => ?_
  refine g_add (by omega) (by omega) ?_
  exact implF_OutNext_l0 n hn x0 k0 b0 h13 h21  t (pre ++ [y]) m _ i10 i17 i5 i3 i1 x206 x14 x15 x7 x8 _ (by rw [he]; simp) (by rw [hi]; simp) (by simpa using hm) lx206 lx14 lx15 lx7 lx8 (by simpa only [List.map_append, List.map_cons, List.map_nil] using (s207.sel (.cons (.here) (.cons (.there (.here)) (.cons (.there (.here)) (.cons (.there (.here)) (.cons (.there (.here)) (.cons (.there (.here)) (.cons (.there (.here)) (.cons (.there (.here)) (.cons (.there (.here)) (.cons (.there (.here)) .nil))))))))))))
theorem implF_OutNext (n : Nat) (hn : 1048576 < n) (x0 : OutV) (k0 : okOut x0) (b0 : wtOut x0 ≤ 1048576) : tree E0 (n + 13) 76 45 [.agg (encOut x0)] = some (.tup [.agg (encOut (vOutNext x0)), .agg (encPacket (vOutNextP x0)), .sc (.bool (vReady x0))]) := by
 rw [tree_def, f45_eq, f45]
 refine tree_gd (G := (· = some (.tup [.agg (encOut (vOutNext x0)), .agg (encPacket (vOutNextP x0)), .sc (.bool (vReady x0))]))) ?_
 have hfl := fl_len x0 b0
 have hpb := pop_body x0 b0
 try simp only [PR_box, PR_new, PR_newSl, PR_fadr, PR_load, PR_store, PR_bin, PR_binB, PR_binA, PR_un, PR_cond, PR_guard, PR_pick, PR_len, PR_lenS, PR_iadr, PR_idx, PR_slice, PR_sliceS, PR_fill, PR_make, PR_app, PR_appS, PR_cvI, PR_cvSS, PR_cvBS, PR_cvSB, PR_extr, PR_nil, PR_clear, PR_fld, PR_apart, PR_same]
 have s0 : Sep [] [] := sep_nil
 refine g_box s0 (cells_fl (flOut _)) fun i1 H s2 => ?_
 refine g_new s2 fun i3 H s4 => ?_
 refine g_new s4 fun i5 H s6 => ?_
 refine g_ldW s6 (.there (.there (.here))) rfl ?_
 refine g_callA s6 rfl (.aggF (flOut _) .nil) (copyOutF (n + 8) (by omega) x0 (smOC x0 b0)) ⟨_, rfl, rfl⟩ (ins_sc (ins_ro (ty := 30) rfl (okRFlight x0.fFl) (ins_ro (ty := 31) rfl (okRMsg x0.fQ) ins_nil))) ?_
 rintro _ _ H ⟨_, rfl, ⟨x8, _, _, lx8, rfl, rfl, ⟨x7, _, _, lx7, rfl, rfl, ⟨rfl, rfl⟩⟩⟩⟩ s9
 simp only [List.nil_append, List.cons_append] at s9
 refine g_new s9 fun i10 H s11 => ?_
 refine g_st (cs' := [.sc (.int .i64 x0.fLast), x8, x7]) s11 (.here) (cells_agg (lf_c rfl (lf_c lx8 (lf_c lx7 rfl)))) rfl (Nat.le_of_ble_eq_true rfl) rfl fun H s12 => ?_
 refine g_ldW s12 (.there (.there (.there (.there (.there (.here)))))) rfl ?_
 refine g_callS (v := (.bool (vReady x0))) s12 rfl (.aggF (flOut _) .nil) (implF_OutReady (n + 1) (by omega) x0 k0 b0) ?_
 refine g_not ?_
 refine w_split ((vReady x0)) (fun h13 => ?_) (fun h13 => ?_)
 ·refine g_cF (nF h13) ?_
  refine g_fadr (o' := 2) rfl ?_
  refine g_ld (c := rowsC encMsg x0.fQ) s12 (.there (.there (.there (.there (.there (.here)))))) rfl ?_
  refine g_callT s12 rfl (.cons .ro .nil) (implF_Pop (n + 8) (by omega) x0.fQ k0.2.2 (q_wt x0 b0)) rfl (ins_ro (ty := 31) rfl (okRMsg x0.fQ.tail) (ins_agg ⟨_, rfl, rfl⟩ (ins_sc (ins_ro (ty := 43) rfl (okB6 ((vPop1 x0.fQ).fBody)) (ins_sc (ins_sc ins_nil)))) (ins_sc ins_nil))) ?_
  rintro _ _ H ⟨x15, _, _, lx15, rfl, rfl, ⟨_, _, _, _, rfl, rfl, ⟨_, rfl, ⟨x14, _, _, lx14, rfl, rfl, ⟨_, rfl, ⟨_, rfl, ⟨rfl, rfl⟩⟩⟩⟩⟩, ⟨_, rfl, ⟨rfl, rfl⟩⟩⟩⟩ s16
  simp only [List.nil_append, List.cons_append] at s16
  refine g_extr (v := x15) rfl ?_
  refine g_extr (v := .agg [.sc (.string ((vPop1 x0.fQ).fTopic)), x14, .sc (.int .i64 ((vPop1 x0.fQ).fQos)), .sc (.bool (vPop1 x0.fQ).fRetain)]) rfl ?_
  refine g_extr (v := .sc (.bool (vPop2 x0.fQ))) rfl ?_
  refine g_new s16 fun i17 H s18 => ?_
  refine g_st (cs' := [.sc (.string ((vPop1 x0.fQ).fTopic)), x14, .sc (.int .i64 ((vPop1 x0.fQ).fQos)), .sc (.bool (vPop1 x0.fQ).fRetain)]) s18 (.here) (cells_agg (lf_c rfl (lf_c lx14 (lf_c rfl (lf_c rfl rfl))))) rfl (Nat.le_of_ble_eq_true rfl) rfl fun H s19 => ?_
  refine g_fadr (o' := 2) rfl ?_
  refine g_st (cs' := [.sc (.int .i64 x0.fLast), x8, x15]) s19 (.there (.there (.there (.here)))) (cells_leaf lx15) rfl (Nat.le_of_ble_eq_true rfl) rfl fun H s20 => ?_
  refine g_fadr (o' := 2) rfl ?_
  refine g_ld (c := .sc (.int .i64 ((vPop1 x0.fQ).fQos))) s20 (.there (.here)) rfl ?_
  refine g_eql ?_
  refine w_split ((decide (((vPop1 x0.fQ).fQos) = 0))) (fun h21 => ?_) (fun h21 => ?_)
  ·refine g_cT h21 ?_
   refine g_ldW s20 (.here) rfl ?_
   refine g_ldW s20 (.there (.here)) rfl ?_
   have c22 := implPubF (n + 10) (by omega) (vPop1 x0.fQ) 0 false hpb
   refine g_callA s20 rfl (.agg (.cons .sc (.cons (.own (by decide) (.there (.there (.here)))) (.cons .sc (.cons .sc .nil)))) (.cons .sc (.cons .sc .nil))) (c22) ⟨_, rfl, rfl⟩ (ins_sc (ins_sc (ins_sc (ins_sc (ins_sc (ins_sc (ins_ro (ty := 43) rfl (okB6 ((vPub (vPop1 x0.fQ) 0 false).fBody)) (ins_sc (ins_sc (ins_sc (ins_sc (ins_sc (ins_sc (ins_ro (ty := 43) rfl (okB6 ((vPub (vPop1 x0.fQ) 0 false).fWBody)) (ins_sc (ins_sc (ins_sc (ins_sc (ins_sc (ins_ro (ty := 43) rfl (okB6 ((vPub (vPop1 x0.fQ) 0 false).fPass)) (ins_sc (ins_sc (ins_ro (ty := 72) rfl (okRWant ((vPub (vPop1 x0.fQ) 0 false).fWants)) (ins_ro (ty := 73) rfl (okS6 ((vPub (vPop1 x0.fQ) 0 false).fNames)) (ins_ro (ty := 26) rfl (okI6 ((vPub (vPop1 x0.fQ) 0 false).fCodes)) ins_nil))))))))))))))))))))))))) ?_
   rintro _ _ H ⟨_, rfl, ⟨_, rfl, ⟨_, rfl, ⟨_, rfl, ⟨_, rfl, ⟨_, rfl, ⟨x28, _, _, lx28, rfl, rfl, ⟨_, rfl, ⟨_, rfl, ⟨_, rfl, ⟨_, rfl, ⟨_, rfl, ⟨_, rfl, ⟨x27, _, _, lx27, rfl, rfl, ⟨_, rfl, ⟨_, rfl, ⟨_, rfl, ⟨_, rfl, ⟨_, rfl, ⟨x26, _, _, lx26, rfl, rfl, ⟨_, rfl, ⟨_, rfl, ⟨x25, _, _, lx25, rfl, rfl, ⟨x24, _, _, lx24, rfl, rfl, ⟨x23, _, _, lx23, rfl, rfl, ⟨rfl, rfl⟩⟩⟩⟩⟩⟩⟩⟩⟩⟩⟩⟩⟩⟩⟩⟩⟩⟩⟩⟩⟩⟩⟩⟩⟩⟩ s29
   simp only [List.nil_append, List.cons_append] at s29
   refine g_st (cs' := [.sc (.int .i64 x0.fLast), x8, x15]) s29 (.there (.there (.there (.there (.there (.there (.there (.there (.there (.there (.there (.there (.there (.here)))))))))))))) (cells_agg (lf_c rfl (lf_c lx8 (lf_c lx15 rfl)))) rfl (Nat.le_of_ble_eq_true rfl) rfl fun H s30 => ?_
   refine g_st (cs' := [.sc (.int .i64 ((vPub (vPop1 x0.fQ) 0 false).fType)), .sc (.bool (vPub (vPop1 x0.fQ) 0 false).fDup), .sc (.int .i64 ((vPub (vPop1 x0.fQ) 0 false).fQos)), .sc (.bool (vPub (vPop1 x0.fQ) 0 false).fRetain), .sc (.int .i64 ((vPub (vPop1 x0.fQ) 0 false).fId)), .sc (.string ((vPub (vPop1 x0.fQ) 0 false).fTopic)), x28, .sc (.string ((vPub (vPop1 x0.fQ) 0 false).fClient)), .sc (.int .i64 ((vPub (vPop1 x0.fQ) 0 false).fLevel)), .sc (.bool (vPub (vPop1 x0.fQ) 0 false).fClean), .sc (.int .i64 ((vPub (vPop1 x0.fQ) 0 false).fKeep)), .sc (.bool (vPub (vPop1 x0.fQ) 0 false).fHasWill), .sc (.string ((vPub (vPop1 x0.fQ) 0 false).fWTopic)), x27, .sc (.int .i64 ((vPub (vPop1 x0.fQ) 0 false).fWQos)), .sc (.bool (vPub (vPop1 x0.fQ) 0 false).fWRetain), .sc (.bool (vPub (vPop1 x0.fQ) 0 false).fHasUser), .sc (.string ((vPub (vPop1 x0.fQ) 0 false).fUser)), .sc (.bool (vPub (vPop1 x0.fQ) 0 false).fHasPass), x26, .sc (.int .i64 ((vPub (vPop1 x0.fQ) 0 false).fCode)), .sc (.bool (vPub (vPop1 x0.fQ) 0 false).fPresent), x25, x24, x23]) s30 (.there (.there (.there (.there (.there (.there (.there (.there (.there (.there (.there (.there (.there (.here)))))))))))))) (cells_agg (lf_c rfl (lf_c rfl (lf_c rfl (lf_c rfl (lf_c rfl (lf_c rfl (lf_c lx28 (lf_c rfl (lf_c rfl (lf_c rfl (lf_c rfl (lf_c rfl (lf_c rfl (lf_c lx27 (lf_c rfl (lf_c rfl (lf_c rfl (lf_c rfl (lf_c rfl (lf_c lx26 (lf_c rfl (lf_c rfl (lf_c lx25 (lf_c lx24 (lf_c lx23 rfl)))))))))))))))))))))))))) rfl (Nat.le_of_ble_eq_true rfl) rfl fun H s31 => ?_
   refine g_ldW s31 (.there (.here)) rfl ?_
   refine g_ldW s31 (.here) rfl ?_
   refine g_ret (ret_tup s31 rfl (.agg ⟨_, rfl, rfl⟩ (.sc (.own (.there (.there (.there (.there (.there (.there (.there (.there (.there (.there (.there (.there (.there (.here)))))))))))))) (.own (.there (.there (.there (.there (.there (.there (.there (.there (.there (.there (.there (.here)))))))))))) .nil))) (.agg ⟨_, rfl, rfl⟩ (.sc (.sc (.sc (.sc (.sc (.sc (.own (.there (.there (.there (.there (.there (.there (.there (.here)))))))) (.sc (.sc (.sc (.sc (.sc (.sc (.own (.there (.there (.there (.there (.there (.there (.here))))))) (.sc (.sc (.sc (.sc (.sc (.own (.there (.there (.there (.there (.there (.here)))))) (.sc (.sc (.own (.there (.there (.there (.there (.here))))) (.own (.there (.there (.there (.here)))) (.own (.there (.there (.here))) .nil))))))))))))))))))))))))) (.sc .nil))) ⟨(okAg ⟨_, rfl, rfl⟩ ⟨trivial, ⟨(okW_le (okRFlight x0.fFl) (by decide)), ⟨(okW_le (okRMsg x0.fQ.tail) (by decide)), trivial⟩⟩⟩), ⟨(okAg ⟨_, rfl, rfl⟩ ⟨trivial, ⟨trivial, ⟨trivial, ⟨trivial, ⟨trivial, ⟨trivial, ⟨(okW_le (okB6 ((vPub (vPop1 x0.fQ) 0 false).fBody)) (by decide)), ⟨trivial, ⟨trivial, ⟨trivial, ⟨trivial, ⟨trivial, ⟨trivial, ⟨(okW_le (okB6 ((vPub (vPop1 x0.fQ) 0 false).fWBody)) (by decide)), ⟨trivial, ⟨trivial, ⟨trivial, ⟨trivial, ⟨trivial, ⟨(okW_le (okB6 ((vPub (vPop1 x0.fQ) 0 false).fPass)) (by decide)), ⟨trivial, ⟨trivial, ⟨(okW_le (okRWant ((vPub (vPop1 x0.fQ) 0 false).fWants)) (by decide)), ⟨(okW_le (okS6 ((vPub (vPop1 x0.fQ) 0 false).fNames)) (by decide)), ⟨(okW_le (okI6 ((vPub (vPop1 x0.fQ) 0 false).fCodes)) (by decide)), trivial⟩⟩⟩⟩⟩⟩⟩⟩⟩⟩⟩⟩⟩⟩⟩⟩⟩⟩⟩⟩⟩⟩⟩⟩⟩), ⟨trivial, trivial⟩⟩⟩) ?_
   have e32 : vOutNext x0 = (⟨x0.fLast, x0.fFl, x0.fQ.tail⟩ : OutV) := by
    clear s0 s2 s4 s6 s9 s11 s12 s16 s18 s19 s20 s29 s30 s31
    try simp only [decide_eq_true_eq, decide_eq_false_iff_not, bne_iff_ne, beq_iff_eq, beq_eq_false_iff_ne] at h13 h21
    first | assumption | (simp only [vOutNext, vOutNextP, vNextId, h13, h21, if_true, if_false, Bool.false_eq_true]; first | done | rfl)
   have e33 : vOutNextP x0 = (⟨(vPub (vPop1 x0.fQ) 0 false).fType, (vPub (vPop1 x0.fQ) 0 false).fDup, (vPub (vPop1 x0.fQ) 0 false).fQos, (vPub (vPop1 x0.fQ) 0 false).fRetain, (vPub (vPop1 x0.fQ) 0 false).fId, (vPub (vPop1 x0.fQ) 0 false).fTopic, (vPub (vPop1 x0.fQ) 0 false).fBody, (vPub (vPop1 x0.fQ) 0 false).fClient, (vPub (vPop1 x0.fQ) 0 false).fLevel, (vPub (vPop1 x0.fQ) 0 false).fClean, (vPub (vPop1 x0.fQ) 0 false).fKeep, (vPub (vPop1 x0.fQ) 0 false).fHasWill, (vPub (vPop1 x0.fQ) 0 false).fWTopic, (vPub (vPop1 x0.fQ) 0 false).fWBody, (vPub (vPop1 x0.fQ) 0 false).fWQos, (vPub (vPop1 x0.fQ) 0 false).fWRetain, (vPub (vPop1 x0.fQ) 0 false).fHasUser, (vPub (vPop1 x0.fQ) 0 false).fUser, (vPub (vPop1 x0.fQ) 0 false).fHasPass, (vPub (vPop1 x0.fQ) 0 false).fPass, (vPub (vPop1 x0.fQ) 0 false).fCode, (vPub (vPop1 x0.fQ) 0 false).fPresent, ((vPub (vPop1 x0.fQ) 0 false).fWants), (vPub (vPop1 x0.fQ) 0 false).fNames, (vPub (vPop1 x0.fQ) 0 false).fCodes⟩ : PacketV) := by
    clear s0 s2 s4 s6 s9 s11 s12 s16 s18 s19 s20 s29 s30 s31
    try simp only [decide_eq_true_eq, decide_eq_false_iff_not, bne_iff_ne, beq_iff_eq, beq_eq_false_iff_ne] at h13 h21
    first | assumption | (simp only [vOutNext, vOutNextP, vNextId, h13, h21, if_true, if_false, Bool.false_eq_true]; first | done | rfl)
   have e34 : vReady x0 = true := by
    clear s0 s2 s4 s6 s9 s11 s12 s16 s18 s19 s20 s29 s30 s31
    try simp only [decide_eq_true_eq, decide_eq_false_iff_not, bne_iff_ne, beq_iff_eq, beq_eq_false_iff_ne] at h13 h21
    first | assumption | (simp only [vOutNext, vOutNextP, vNextId, h13, h21, if_true, if_false, Bool.false_eq_true]; first | done | rfl)
   rw [e32, e33, e34]
   first | done | rfl
  ·refine g_cF h21 ?_
   refine g_fadr (o' := 1) rfl ?_
   refine g_ld (c := rowsC encFlight x0.fFl) s20 (.there (.there (.there (.there (.there (.there (.there (.there (.here))))))))) rfl ?_
   refine g_len ?_
   have s35 := s20.nl (ty := 26) ⟨_, _, rfl, rfl⟩
   exact implF_OutNext_l0 n hn x0 k0 b0 h13 h21  x0.fFl [] _ 0 i10 i17 i5 i3 i1 .nl x14 x15 x7 x8 _ rfl rfl (by omega) rfl lx14 lx15 lx7 lx8 s35
 ·refine g_cT (nT h13) ?_
  refine g_ldW s12 (.here) rfl ?_
  refine g_fill (cs := [.sc (.int .i64 0), .sc (.bool false), .sc (.int .i64 0), .sc (.bool false), .sc (.int .i64 0), .sc (.string (⟨#[]⟩)), .nl, .sc (.string (⟨#[]⟩)), .sc (.int .i64 0), .sc (.bool false), .sc (.int .i64 0), .sc (.bool false), .sc (.string (⟨#[]⟩)), .nl, .sc (.int .i64 0), .sc (.bool false), .sc (.bool false), .sc (.string (⟨#[]⟩)), .sc (.bool false), .nl, .sc (.int .i64 0), .sc (.bool false), .nl, .nl, .nl]) rfl ?_
  refine g_st (cs' := [.sc (.int .i64 x0.fLast), x8, x7]) s12 (.there (.there (.there (.there (.here))))) (cells_agg (lf_c rfl (lf_c lx8 (lf_c lx7 rfl)))) rfl (Nat.le_of_ble_eq_true rfl) rfl fun H s36 => ?_
  refine g_st (cs' := [.sc (.int .i64 0), .sc (.bool false), .sc (.int .i64 0), .sc (.bool false), .sc (.int .i64 0), .sc (.string (⟨#[]⟩)), .nl, .sc (.string (⟨#[]⟩)), .sc (.int .i64 0), .sc (.bool false), .sc (.int .i64 0), .sc (.bool false), .sc (.string (⟨#[]⟩)), .nl, .sc (.int .i64 0), .sc (.bool false), .sc (.bool false), .sc (.string (⟨#[]⟩)), .sc (.bool false), .nl, .sc (.int .i64 0), .sc (.bool false), .nl, .nl, .nl]) s36 (.there (.there (.there (.there (.here))))) (cells_agg (lf_c rfl (lf_c rfl (lf_c rfl (lf_c rfl (lf_c rfl (lf_c rfl (lf_c rfl (lf_c rfl (lf_c rfl (lf_c rfl (lf_c rfl (lf_c rfl (lf_c rfl (lf_c rfl (lf_c rfl (lf_c rfl (lf_c rfl (lf_c rfl (lf_c rfl (lf_c rfl (lf_c rfl (lf_c rfl (lf_c rfl (lf_c rfl (lf_c rfl rfl)))))))))))))))))))))))))) rfl (Nat.le_of_ble_eq_true rfl) rfl fun H s37 => ?_
  refine g_ldW s37 (.there (.here)) rfl ?_
  refine g_ldW s37 (.here) rfl ?_
  refine g_ret (ret_tup s37 rfl (.agg ⟨_, rfl, rfl⟩ (.sc (.own (.there (.there (.there (.there (.here))))) (.own (.there (.there (.there (.here)))) .nil))) (.agg ⟨_, rfl, rfl⟩ (.sc (.sc (.sc (.sc (.sc (.sc (.nl (.sc (.sc (.sc (.sc (.sc (.sc (.nl (.sc (.sc (.sc (.sc (.sc (.nl (.sc (.sc (.nl (.nl (.nl .nil))))))))))))))))))))))))) (.sc .nil))) ⟨(okAg ⟨_, rfl, rfl⟩ ⟨trivial, ⟨(okW_le (okRFlight x0.fFl) (by decide)), ⟨(okW_le (okRMsg x0.fQ) (by decide)), trivial⟩⟩⟩), ⟨(okAg ⟨_, rfl, rfl⟩ ⟨trivial, ⟨trivial, ⟨trivial, ⟨trivial, ⟨trivial, ⟨trivial, ⟨(okNl ⟨_, _, rfl, rfl⟩), ⟨trivial, ⟨trivial, ⟨trivial, ⟨trivial, ⟨trivial, ⟨trivial, ⟨(okNl ⟨_, _, rfl, rfl⟩), ⟨trivial, ⟨trivial, ⟨trivial, ⟨trivial, ⟨trivial, ⟨(okNl ⟨_, _, rfl, rfl⟩), ⟨trivial, ⟨trivial, ⟨(okNl ⟨_, _, rfl, rfl⟩), ⟨(okNl ⟨_, _, rfl, rfl⟩), ⟨(okNl ⟨_, _, rfl, rfl⟩), trivial⟩⟩⟩⟩⟩⟩⟩⟩⟩⟩⟩⟩⟩⟩⟩⟩⟩⟩⟩⟩⟩⟩⟩⟩⟩), ⟨trivial, trivial⟩⟩⟩) ?_
  have e38 : vOutNext x0 = (⟨x0.fLast, x0.fFl, x0.fQ⟩ : OutV) := by
   clear s0 s2 s4 s6 s9 s11 s12 s36 s37
   try simp only [decide_eq_true_eq, decide_eq_false_iff_not, bne_iff_ne, beq_iff_eq, beq_eq_false_iff_ne] at h13
   first | assumption | (simp only [vOutNext, vOutNextP, vNextId, h13, if_true, if_false, Bool.false_eq_true]; first | done | rfl)
  have e39 : vOutNextP x0 = (⟨0, false, 0, false, 0, ⟨#[]⟩, ⟨#[]⟩, ⟨#[]⟩, 0, false, 0, false, ⟨#[]⟩, ⟨#[]⟩, 0, false, false, ⟨#[]⟩, false, ⟨#[]⟩, 0, false, [], [], []⟩ : PacketV) := by
   clear s0 s2 s4 s6 s9 s11 s12 s36 s37
   try simp only [decide_eq_true_eq, decide_eq_false_iff_not, bne_iff_ne, beq_iff_eq, beq_eq_false_iff_ne] at h13
   first | assumption | (simp only [vOutNext, vOutNextP, vNextId, h13, if_true, if_false, Bool.false_eq_true]; first | done | rfl)
  have e40 : vReady x0 = false := by
   clear s0 s2 s4 s6 s9 s11 s12 s36 s37
   try simp only [decide_eq_true_eq, decide_eq_false_iff_not, bne_iff_ne, beq_iff_eq, beq_eq_false_iff_ne] at h13
   first | assumption | (simp only [vOutNext, vOutNextP, vNextId, h13, if_true, if_false, Bool.false_eq_true]; first | done | rfl)
  rw [e38, e39, e40]
  first | done | rfl
theorem outNext_wt (x0 : OutV) (b0 : wtOut x0 ≤ 1048576) : wtOut (vOutNext x0) ≤ 1048576 := by
 have hq : wtL wtMsg x0.fQ.tail ≤ wtL wtMsg x0.fQ ∧ (vReady x0 = true → wtL wtMsg x0.fQ.tail + 1 + wtMsg (vPop1 x0.fQ) ≤ wtL wtMsg x0.fQ) := by
  cases hc : x0.fQ with
  | nil => exact ⟨Nat.le_refl _, fun h => by simp [vReady, hc] at h⟩
  | cons m l =>
   have : wtL wtMsg (m :: l) = 1 + wtMsg m + wtL wtMsg l := rfl
   show wtL wtMsg l ≤ _ ∧ (_ → wtL wtMsg l + 1 + wtMsg m ≤ _)
   constructor
   ·omega
   ·intro _
    omega
 have hf : ∀ (l : List FlightV) (f : FlightV), wtL wtFlight (l ++ [f]) = wtL wtFlight l + (1 + wtFlight f) := by
  intro l f
  induction l with
  | nil =>
   show 1 + wtFlight f + 0 = 0 + (1 + wtFlight f)
   omega
  | cons x l ih =>
   show 1 + wtFlight x + wtL wtFlight (l ++ [f]) = 1 + wtFlight x + wtL wtFlight l + (1 + wtFlight f)
   rw [ih]
   omega
 have b := b0
 unfold wtOut at b
 unfold vOutNext
 split
 ·rename_i h
  have h2 := hq.2 h
  split
  ·show wtL wtFlight x0.fFl + (wtL wtMsg x0.fQ.tail + 0) ≤ _
   omega
  ·show wtL wtFlight (x0.fFl ++ [(⟨vNextId x0, vPop1 x0.fQ, (vPop1 x0.fQ).fQos⟩ : FlightV)]) + (wtL wtMsg x0.fQ.tail + 0) ≤ _
   have e : wtFlight (⟨vNextId x0, vPop1 x0.fQ, (vPop1 x0.fQ).fQos⟩ : FlightV) = wtMsg (vPop1 x0.fQ) + 0 := rfl
   rw [hf, e]
   omega
 ·exact b0
theorem pub_wt (m : MsgV) (i : Int) (d : Bool) : wtPacket (vPub m i d) = wtMsg m := by
 unfold wtPacket wtMsg vPub
 show m.fTopic.size + (m.fBody.size + (0 + (0 + (0 + (0 + (0 + (0 + (0 + (0 + 0))))))))) = _
 simp
theorem outNextP_wt (x0 : OutV) (b0 : wtOut x0 ≤ 1048576) : wtPacket (vOutNextP x0) ≤ 1048576 := by
 have h := (resF_Pop_1 x0.fQ (q_wt x0 b0)).1
 unfold vOutNextP
 split
 ·split <;> (rw [pub_wt]; exact h)
 ·decide
theorem resF_OutNext_0 (x0 : OutV) (b0 : wtOut x0 ≤ 1048576) : wtOut (vOutNext x0) ≤ 1048576 ∧ smOut (vOutNext x0) := ⟨outNext_wt x0 b0, smwOut _ (outNext_wt x0 b0)⟩
theorem resF_OutNext_1 (x0 : OutV) (b0 : wtOut x0 ≤ 1048576) : wtPacket (vOutNextP x0) ≤ 1048576 ∧ smPacket (vOutNextP x0) := ⟨outNextP_wt x0 b0, smwPacket _ (outNextP_wt x0 b0)⟩
end Go.Proofs.YtdameggfgnpehaaGreatDoor.Abs
set_option linter.unusedVariables false
set_option linter.unusedSimpArgs false
namespace Go.Proofs.YtdameggfgnpehaaGreatDoor.Abs
open Go
theorem AtL.split {H : Heap} {ys : List AV} {N : Nat} {ts us : List Nat} {cs ds : List AV} (h : AtL H ys N (ts ++ us) (cs ++ ds)) (hl : ts.length = cs.length) : ∃ y1 y2, ys = y1 ++ y2 ∧ AtL H y1 N ts cs ∧ AtL H y2 (N + nbL cs) us ds := by
 obtain ⟨h1, h2, h3⟩ := h
 have e := instL_append (ti := ti0) (tp := E0.tp) ts cs us ds N hl
 rw [instL_nb] at e
 rw [e] at h1 h3
 rw [nbL_append] at h2
 have h4 := h3.right
 rw [instL_nb] at h4
 exact ⟨_, _, h1, ⟨rfl, by omega, h3.left⟩, ⟨rfl, by omega, h4⟩⟩
theorem AtL.own {d : Nat} {H : Heap} {ys : List AV} {N : Nat} {ts : List Nat} {cs : List AV} (h : AtL H ys N ts cs) (hok : okLW (okW ti0 E0.tp d) ts cs) : OwnC d H ts ys cs (List.range' N (nbL cs)) := by
 have := own_instL (fun ty t N h h' _ => own_inst d ty t N h h') ts cs N hok h.2.2 (instL_live _ _ _)
 rw [instL_nb, ← h.1] at this
 exact this
theorem kept_set {H : Heap} {i : Nat} {b : Blk} : Kept H (H.set i b) i 1 := ⟨by rw [List.length_set]; exact Nat.le_refl _, fun j b hj hd => by rw [List.getElem?_set_ne (by omega)]; exact hj⟩
theorem lm_store {β : Type} {r : Option β} {H : Heap} {w i : Nat} {z ys : List AV} {K : Heap → Option β} (hz : H[i]? = some ⟨z, true, true⟩) (hw : z.length = w) (hy : ys.length = w) (hl : ys.all isLeaf = true) (h : ∀ H', H'[i]? = some ⟨ys, true, true⟩ → Kept H H' i 1 → K H' = r) : pStore w (.ptr i 0) (.agg ys) H (fun H => K H) = r := by
 have hc : cellsA (.agg ys) = some ys := by
  show (if ys.all isLeaf then some ys else none) = _
  rw [if_pos hl]
 rw [st_at w i 0 _ ⟨z, true, true⟩ ys _ _ hz hc hy (by simp only [Nat.zero_add, hw]; exact Nat.le_refl _) rfl]
 have hs : splice z 0 ys = ys := by
  unfold splice
  rw [List.take_zero, List.nil_append, List.drop_of_length_le (by rw [hw, hy]; omega), List.append_nil]
 simp only [hs]
 exact h _ (by rw [List.getElem?_set_self (List.getElem?_eq_some_iff.1 hz).1]) kept_set
end Go.Proofs.YtdameggfgnpehaaGreatDoor.Abs
namespace Go.Proofs.YtdameggfgnpehaaGreatDoor.Abs
open Go
set_option linter.unusedVariables false
set_option linter.unusedSimpArgs false
theorem law_OutNext (n : Nat) (hn : 1048576 < n) (x0 : OutV) (k0 : okOut x0) : tree E0 (n + 30) 4 8 [.agg (encOut x0)] = some (.sc (.bool true)) := by
 rw [tree_def, f8_eq, f8]
 simp only [PR_box, PR_new, PR_load, PR_store, PR_bin, PR_binB, PR_un, PR_cond, PR_lenS, PR_extr, PR_guard, PR_pick]
 refine w_box (flOut x0) fun i2 i2E B1 => ?_
 refine lw_ld B1 (lenOut x0) ?_
 refine lw_sz rfl (vcons (Vw_agg _ (flOut x0)) (vcons (Vw_sc _ _) vnil)) (szF_Out (n + 24) (by omega) _ x0 k0 _ (by omega) (by omega)) (by omega) rfl fun b0 => ?_
 have c4 := cntvOut (x0)
 have s3w : wtOut x0 ≤ 1048576 := by omega
 have s3 := smwOut x0 s3w
 have c5 := cntvOut (vOutNext x0)
 obtain ⟨s6w, s6⟩ := resF_OutNext_0 x0 (by omega)
 have c7 := cntvPacket (vOutNextP x0)
 obtain ⟨s8w, s8⟩ := resF_OutNext_1 x0 (by omega)
 refine lw_ld B1 (lenOut x0) ?_
 refine lm_agg rfl (vcons (Vw_agg _ (flOut x0)) vnil) (toF_Out (n + 24) (by omega) x0 (by omega)) tyOut fun y12 X10 N9 n11 a13 => ?_
 have o14 : i2 < N9 := by have := (List.getElem?_eq_some_iff.1 B1).1; omega
 replace B1 := blk_grow B1 X10
 refine lm_tup rfl (vcons (a13.vw (okWOut 4 (x0))) vnil) (specF_OutNext (n + 16) (by omega) x0 k0 (by omega)) rfl fun ys18 X16 N15 n17 a19 => ?_
 have o20 : i2 < N15 := by have := (List.getElem?_eq_some_iff.1 B1).1; omega
 replace B1 := blk_grow B1 X16
 obtain ⟨y21, ys22, rfl, a23, a24⟩ := a19.cons
 have nb25 : nbT (.agg (encOut (vOutNext x0))) = nbL (encOut (vOutNext x0)) := rfl
 obtain ⟨y26, ys27, rfl, a28, a29⟩ := a24.cons
 have nb30 : nbT (.agg (encPacket (vOutNextP x0))) = nbL (encPacket (vOutNextP x0)) := rfl
 obtain ⟨y31, ys32, rfl, a33, a34⟩ := a29.cons
 obtain rfl := a34.nil
 refine lm_ex rfl ?_
 obtain ⟨ys35, rfl, a36⟩ := a23.agg tyOut
 refine lm_ex rfl ?_
 obtain ⟨ys37, rfl, a38⟩ := a28.agg tyPacket
 refine lm_ex rfl ?_
 obtain rfl := a33.sc
 refine w_new fun i40 i40E B39 => ?_
 have o41 : i2 < i40 := by have := (List.getElem?_eq_some_iff.1 B1).1; omega
 have o42 : N15 + nbL (encOut (vOutNext x0)) ≤ i40 := by have := a36.2.1; omega
 have o43 : (N15 + nbT (.agg (encOut (vOutNext x0)))) + nbL (encPacket (vOutNextP x0)) ≤ i40 := by have := a38.2.1; omega
 replace B1 := blk_grow B1 [⟨[(.sc (.int .i64 0)), .nl, .nl], true, true⟩]
 replace a36 := a36.grow [⟨[(.sc (.int .i64 0)), .nl, .nl], true, true⟩]
 replace a38 := a38.grow [⟨[(.sc (.int .i64 0)), .nl, .nl], true, true⟩]
 refine w_new fun i45 i45E B44 => ?_
 have o46 : i2 < i45 := by have := (List.getElem?_eq_some_iff.1 B1).1; omega
 have o47 : N15 + nbL (encOut (vOutNext x0)) ≤ i45 := by have := a36.2.1; omega
 have o48 : (N15 + nbT (.agg (encOut (vOutNext x0)))) + nbL (encPacket (vOutNextP x0)) ≤ i45 := by have := a38.2.1; omega
 have o49 : i40 < i45 := by have := (List.getElem?_eq_some_iff.1 B39).1; omega
 replace B1 := blk_grow B1 [⟨[(.sc (.int .i64 0)), (.sc (.bool false)), (.sc (.int .i64 0)), (.sc (.bool false)), (.sc (.int .i64 0)), (.sc (.string ⟨#[]⟩)), .nl, (.sc (.string ⟨#[]⟩)), (.sc (.int .i64 0)), (.sc (.bool false)), (.sc (.int .i64 0)), (.sc (.bool false)), (.sc (.string ⟨#[]⟩)), .nl, (.sc (.int .i64 0)), (.sc (.bool false)), (.sc (.bool false)), (.sc (.string ⟨#[]⟩)), (.sc (.bool false)), .nl, (.sc (.int .i64 0)), (.sc (.bool false)), .nl, .nl, .nl], true, true⟩]
 replace a36 := a36.grow [⟨[(.sc (.int .i64 0)), (.sc (.bool false)), (.sc (.int .i64 0)), (.sc (.bool false)), (.sc (.int .i64 0)), (.sc (.string ⟨#[]⟩)), .nl, (.sc (.string ⟨#[]⟩)), (.sc (.int .i64 0)), (.sc (.bool false)), (.sc (.int .i64 0)), (.sc (.bool false)), (.sc (.string ⟨#[]⟩)), .nl, (.sc (.int .i64 0)), (.sc (.bool false)), (.sc (.bool false)), (.sc (.string ⟨#[]⟩)), (.sc (.bool false)), .nl, (.sc (.int .i64 0)), (.sc (.bool false)), .nl, .nl, .nl], true, true⟩]
 replace a38 := a38.grow [⟨[(.sc (.int .i64 0)), (.sc (.bool false)), (.sc (.int .i64 0)), (.sc (.bool false)), (.sc (.int .i64 0)), (.sc (.string ⟨#[]⟩)), .nl, (.sc (.string ⟨#[]⟩)), (.sc (.int .i64 0)), (.sc (.bool false)), (.sc (.int .i64 0)), (.sc (.bool false)), (.sc (.string ⟨#[]⟩)), .nl, (.sc (.int .i64 0)), (.sc (.bool false)), (.sc (.bool false)), (.sc (.string ⟨#[]⟩)), (.sc (.bool false)), .nl, (.sc (.int .i64 0)), (.sc (.bool false)), .nl, .nl, .nl], true, true⟩]
 replace B39 := blk_grow B39 [⟨[(.sc (.int .i64 0)), (.sc (.bool false)), (.sc (.int .i64 0)), (.sc (.bool false)), (.sc (.int .i64 0)), (.sc (.string ⟨#[]⟩)), .nl, (.sc (.string ⟨#[]⟩)), (.sc (.int .i64 0)), (.sc (.bool false)), (.sc (.int .i64 0)), (.sc (.bool false)), (.sc (.string ⟨#[]⟩)), .nl, (.sc (.int .i64 0)), (.sc (.bool false)), (.sc (.bool false)), (.sc (.string ⟨#[]⟩)), (.sc (.bool false)), .nl, (.sc (.int .i64 0)), (.sc (.bool false)), .nl, .nl, .nl], true, true⟩]
 refine lm_store B39 rfl (a36.len.trans (lenOut _)) (a36.leaf (flOut _)) fun G50 B52 q51 => ?_
 replace B1 := blk_kept B1 q51 (by omega)
 replace a36 := a36.kept q51 (by omega)
 replace a38 := a38.kept q51 (by omega)
 replace B44 := blk_kept B44 q51 (by omega)
 refine lm_store B44 rfl (a38.len.trans (lenPacket _)) (a38.leaf (flPacket _)) fun G53 B55 q54 => ?_
 replace B1 := blk_kept B1 q54 (by omega)
 replace a36 := a36.kept q54 (by omega)
 replace a38 := a38.kept q54 (by omega)
 replace B52 := blk_kept B52 q54 (by omega)
 refine lw_ld B1 (lenOut x0) ?_
 refine lm_agg rfl (vcons (Vw_agg _ (flOut x0)) vnil) (toF_Out (n + 24) (by omega) x0 (by omega)) tyOut fun y59 X57 N56 n58 a60 => ?_
 have o61 : i2 < N56 := by have := (List.getElem?_eq_some_iff.1 B1).1; omega
 have o62 : N15 + nbL (encOut (vOutNext x0)) ≤ N56 := by have := a36.2.1; omega
 have o63 : (N15 + nbT (.agg (encOut (vOutNext x0)))) + nbL (encPacket (vOutNextP x0)) ≤ N56 := by have := a38.2.1; omega
 have o64 : i40 < N56 := by have := (List.getElem?_eq_some_iff.1 B52).1; omega
 have o65 : i45 < N56 := by have := (List.getElem?_eq_some_iff.1 B55).1; omega
 replace B1 := blk_grow B1 X57
 replace a36 := a36.grow X57
 replace a38 := a38.grow X57
 replace B52 := blk_grow B52 X57
 replace B55 := blk_grow B55 X57
 refine lm_put rfl (a60.len.trans (lenOut _)) (a60.leaf (flOut _)) fun i67 i67E B66 => ?_
 have o68 : i2 < i67 := by have := (List.getElem?_eq_some_iff.1 B1).1; omega
 have o69 : N15 + nbL (encOut (vOutNext x0)) ≤ i67 := by have := a36.2.1; omega
 have o70 : (N15 + nbT (.agg (encOut (vOutNext x0)))) + nbL (encPacket (vOutNextP x0)) ≤ i67 := by have := a38.2.1; omega
 have o71 : i40 < i67 := by have := (List.getElem?_eq_some_iff.1 B52).1; omega
 have o72 : i45 < i67 := by have := (List.getElem?_eq_some_iff.1 B55).1; omega
 have o73 : N56 + nbL (encOut (x0)) ≤ i67 := by have := a60.2.1; omega
 replace B1 := blk_grow B1 [⟨y59, true, true⟩]
 replace a36 := a36.grow [⟨y59, true, true⟩]
 replace a38 := a38.grow [⟨y59, true, true⟩]
 replace B52 := blk_grow B52 [⟨y59, true, true⟩]
 replace B55 := blk_grow B55 [⟨y59, true, true⟩]
 replace a60 := a60.grow [⟨y59, true, true⟩]
 refine lw_ld B66 (a60.len.trans (lenOut _)) ?_
 refine lm_tup rfl (vcons (a60.vw (okWOut 4 (x0))) vnil) (implF_OutNext (n + 16) (by omega) x0 k0 (by omega)) rfl fun ys77 X75 N74 n76 a78 => ?_
 have o79 : i2 < N74 := by have := (List.getElem?_eq_some_iff.1 B1).1; omega
 have o80 : N15 + nbL (encOut (vOutNext x0)) ≤ N74 := by have := a36.2.1; omega
 have o81 : (N15 + nbT (.agg (encOut (vOutNext x0)))) + nbL (encPacket (vOutNextP x0)) ≤ N74 := by have := a38.2.1; omega
 have o82 : i40 < N74 := by have := (List.getElem?_eq_some_iff.1 B52).1; omega
 have o83 : i45 < N74 := by have := (List.getElem?_eq_some_iff.1 B55).1; omega
 have o84 : N56 + nbL (encOut (x0)) ≤ N74 := by have := a60.2.1; omega
 have o85 : i67 < N74 := by have := (List.getElem?_eq_some_iff.1 B66).1; omega
 replace B1 := blk_grow B1 X75
 replace a36 := a36.grow X75
 replace a38 := a38.grow X75
 replace B52 := blk_grow B52 X75
 replace B55 := blk_grow B55 X75
 replace a60 := a60.grow X75
 replace B66 := blk_grow B66 X75
 obtain ⟨y86, ys87, rfl, a88, a89⟩ := a78.cons
 have nb90 : nbT (.agg (encOut (vOutNext x0))) = nbL (encOut (vOutNext x0)) := rfl
 obtain ⟨y91, ys92, rfl, a93, a94⟩ := a89.cons
 have nb95 : nbT (.agg (encPacket (vOutNextP x0))) = nbL (encPacket (vOutNextP x0)) := rfl
 obtain ⟨y96, ys97, rfl, a98, a99⟩ := a94.cons
 obtain rfl := a99.nil
 refine lm_ex rfl ?_
 obtain ⟨ys100, rfl, a101⟩ := a88.agg tyOut
 refine lm_ex rfl ?_
 obtain ⟨ys102, rfl, a103⟩ := a93.agg tyPacket
 refine lm_ex rfl ?_
 obtain rfl := a98.sc
 refine w_new fun i105 i105E B104 => ?_
 have o106 : i2 < i105 := by have := (List.getElem?_eq_some_iff.1 B1).1; omega
 have o107 : N15 + nbL (encOut (vOutNext x0)) ≤ i105 := by have := a36.2.1; omega
 have o108 : (N15 + nbT (.agg (encOut (vOutNext x0)))) + nbL (encPacket (vOutNextP x0)) ≤ i105 := by have := a38.2.1; omega
 have o109 : i40 < i105 := by have := (List.getElem?_eq_some_iff.1 B52).1; omega
 have o110 : i45 < i105 := by have := (List.getElem?_eq_some_iff.1 B55).1; omega
 have o111 : N56 + nbL (encOut (x0)) ≤ i105 := by have := a60.2.1; omega
 have o112 : i67 < i105 := by have := (List.getElem?_eq_some_iff.1 B66).1; omega
 have o113 : N74 + nbL (encOut (vOutNext x0)) ≤ i105 := by have := a101.2.1; omega
 have o114 : (N74 + nbT (.agg (encOut (vOutNext x0)))) + nbL (encPacket (vOutNextP x0)) ≤ i105 := by have := a103.2.1; omega
 replace B1 := blk_grow B1 [⟨[(.sc (.int .i64 0)), .nl, .nl], true, true⟩]
 replace a36 := a36.grow [⟨[(.sc (.int .i64 0)), .nl, .nl], true, true⟩]
 replace a38 := a38.grow [⟨[(.sc (.int .i64 0)), .nl, .nl], true, true⟩]
 replace B52 := blk_grow B52 [⟨[(.sc (.int .i64 0)), .nl, .nl], true, true⟩]
 replace B55 := blk_grow B55 [⟨[(.sc (.int .i64 0)), .nl, .nl], true, true⟩]
 replace a60 := a60.grow [⟨[(.sc (.int .i64 0)), .nl, .nl], true, true⟩]
 replace B66 := blk_grow B66 [⟨[(.sc (.int .i64 0)), .nl, .nl], true, true⟩]
 replace a101 := a101.grow [⟨[(.sc (.int .i64 0)), .nl, .nl], true, true⟩]
 replace a103 := a103.grow [⟨[(.sc (.int .i64 0)), .nl, .nl], true, true⟩]
 refine w_new fun i116 i116E B115 => ?_
 have o117 : i2 < i116 := by have := (List.getElem?_eq_some_iff.1 B1).1; omega
 have o118 : N15 + nbL (encOut (vOutNext x0)) ≤ i116 := by have := a36.2.1; omega
 have o119 : (N15 + nbT (.agg (encOut (vOutNext x0)))) + nbL (encPacket (vOutNextP x0)) ≤ i116 := by have := a38.2.1; omega
 have o120 : i40 < i116 := by have := (List.getElem?_eq_some_iff.1 B52).1; omega
 have o121 : i45 < i116 := by have := (List.getElem?_eq_some_iff.1 B55).1; omega
 have o122 : N56 + nbL (encOut (x0)) ≤ i116 := by have := a60.2.1; omega
 have o123 : i67 < i116 := by have := (List.getElem?_eq_some_iff.1 B66).1; omega
 have o124 : N74 + nbL (encOut (vOutNext x0)) ≤ i116 := by have := a101.2.1; omega
 have o125 : (N74 + nbT (.agg (encOut (vOutNext x0)))) + nbL (encPacket (vOutNextP x0)) ≤ i116 := by have := a103.2.1; omega
 have o126 : i105 < i116 := by have := (List.getElem?_eq_some_iff.1 B104).1; omega
 replace B1 := blk_grow B1 [⟨[(.sc (.int .i64 0)), (.sc (.bool false)), (.sc (.int .i64 0)), (.sc (.bool false)), (.sc (.int .i64 0)), (.sc (.string ⟨#[]⟩)), .nl, (.sc (.string ⟨#[]⟩)), (.sc (.int .i64 0)), (.sc (.bool false)), (.sc (.int .i64 0)), (.sc (.bool false)), (.sc (.string ⟨#[]⟩)), .nl, (.sc (.int .i64 0)), (.sc (.bool false)), (.sc (.bool false)), (.sc (.string ⟨#[]⟩)), (.sc (.bool false)), .nl, (.sc (.int .i64 0)), (.sc (.bool false)), .nl, .nl, .nl], true, true⟩]
 replace a36 := a36.grow [⟨[(.sc (.int .i64 0)), (.sc (.bool false)), (.sc (.int .i64 0)), (.sc (.bool false)), (.sc (.int .i64 0)), (.sc (.string ⟨#[]⟩)), .nl, (.sc (.string ⟨#[]⟩)), (.sc (.int .i64 0)), (.sc (.bool false)), (.sc (.int .i64 0)), (.sc (.bool false)), (.sc (.string ⟨#[]⟩)), .nl, (.sc (.int .i64 0)), (.sc (.bool false)), (.sc (.bool false)), (.sc (.string ⟨#[]⟩)), (.sc (.bool false)), .nl, (.sc (.int .i64 0)), (.sc (.bool false)), .nl, .nl, .nl], true, true⟩]
 replace a38 := a38.grow [⟨[(.sc (.int .i64 0)), (.sc (.bool false)), (.sc (.int .i64 0)), (.sc (.bool false)), (.sc (.int .i64 0)), (.sc (.string ⟨#[]⟩)), .nl, (.sc (.string ⟨#[]⟩)), (.sc (.int .i64 0)), (.sc (.bool false)), (.sc (.int .i64 0)), (.sc (.bool false)), (.sc (.string ⟨#[]⟩)), .nl, (.sc (.int .i64 0)), (.sc (.bool false)), (.sc (.bool false)), (.sc (.string ⟨#[]⟩)), (.sc (.bool false)), .nl, (.sc (.int .i64 0)), (.sc (.bool false)), .nl, .nl, .nl], true, true⟩]
 replace B52 := blk_grow B52 [⟨[(.sc (.int .i64 0)), (.sc (.bool false)), (.sc (.int .i64 0)), (.sc (.bool false)), (.sc (.int .i64 0)), (.sc (.string ⟨#[]⟩)), .nl, (.sc (.string ⟨#[]⟩)), (.sc (.int .i64 0)), (.sc (.bool false)), (.sc (.int .i64 0)), (.sc (.bool false)), (.sc (.string ⟨#[]⟩)), .nl, (.sc (.int .i64 0)), (.sc (.bool false)), (.sc (.bool false)), (.sc (.string ⟨#[]⟩)), (.sc (.bool false)), .nl, (.sc (.int .i64 0)), (.sc (.bool false)), .nl, .nl, .nl], true, true⟩]
 replace B55 := blk_grow B55 [⟨[(.sc (.int .i64 0)), (.sc (.bool false)), (.sc (.int .i64 0)), (.sc (.bool false)), (.sc (.int .i64 0)), (.sc (.string ⟨#[]⟩)), .nl, (.sc (.string ⟨#[]⟩)), (.sc (.int .i64 0)), (.sc (.bool false)), (.sc (.int .i64 0)), (.sc (.bool false)), (.sc (.string ⟨#[]⟩)), .nl, (.sc (.int .i64 0)), (.sc (.bool false)), (.sc (.bool false)), (.sc (.string ⟨#[]⟩)), (.sc (.bool false)), .nl, (.sc (.int .i64 0)), (.sc (.bool false)), .nl, .nl, .nl], true, true⟩]
 replace a60 := a60.grow [⟨[(.sc (.int .i64 0)), (.sc (.bool false)), (.sc (.int .i64 0)), (.sc (.bool false)), (.sc (.int .i64 0)), (.sc (.string ⟨#[]⟩)), .nl, (.sc (.string ⟨#[]⟩)), (.sc (.int .i64 0)), (.sc (.bool false)), (.sc (.int .i64 0)), (.sc (.bool false)), (.sc (.string ⟨#[]⟩)), .nl, (.sc (.int .i64 0)), (.sc (.bool false)), (.sc (.bool false)), (.sc (.string ⟨#[]⟩)), (.sc (.bool false)), .nl, (.sc (.int .i64 0)), (.sc (.bool false)), .nl, .nl, .nl], true, true⟩]
 replace B66 := blk_grow B66 [⟨[(.sc (.int .i64 0)), (.sc (.bool false)), (.sc (.int .i64 0)), (.sc (.bool false)), (.sc (.int .i64 0)), (.sc (.string ⟨#[]⟩)), .nl, (.sc (.string ⟨#[]⟩)), (.sc (.int .i64 0)), (.sc (.bool false)), (.sc (.int .i64 0)), (.sc (.bool false)), (.sc (.string ⟨#[]⟩)), .nl, (.sc (.int .i64 0)), (.sc (.bool false)), (.sc (.bool false)), (.sc (.string ⟨#[]⟩)), (.sc (.bool false)), .nl, (.sc (.int .i64 0)), (.sc (.bool false)), .nl, .nl, .nl], true, true⟩]
 replace a101 := a101.grow [⟨[(.sc (.int .i64 0)), (.sc (.bool false)), (.sc (.int .i64 0)), (.sc (.bool false)), (.sc (.int .i64 0)), (.sc (.string ⟨#[]⟩)), .nl, (.sc (.string ⟨#[]⟩)), (.sc (.int .i64 0)), (.sc (.bool false)), (.sc (.int .i64 0)), (.sc (.bool false)), (.sc (.string ⟨#[]⟩)), .nl, (.sc (.int .i64 0)), (.sc (.bool false)), (.sc (.bool false)), (.sc (.string ⟨#[]⟩)), (.sc (.bool false)), .nl, (.sc (.int .i64 0)), (.sc (.bool false)), .nl, .nl, .nl], true, true⟩]
 replace a103 := a103.grow [⟨[(.sc (.int .i64 0)), (.sc (.bool false)), (.sc (.int .i64 0)), (.sc (.bool false)), (.sc (.int .i64 0)), (.sc (.string ⟨#[]⟩)), .nl, (.sc (.string ⟨#[]⟩)), (.sc (.int .i64 0)), (.sc (.bool false)), (.sc (.int .i64 0)), (.sc (.bool false)), (.sc (.string ⟨#[]⟩)), .nl, (.sc (.int .i64 0)), (.sc (.bool false)), (.sc (.bool false)), (.sc (.string ⟨#[]⟩)), (.sc (.bool false)), .nl, (.sc (.int .i64 0)), (.sc (.bool false)), .nl, .nl, .nl], true, true⟩]
 replace B104 := blk_grow B104 [⟨[(.sc (.int .i64 0)), (.sc (.bool false)), (.sc (.int .i64 0)), (.sc (.bool false)), (.sc (.int .i64 0)), (.sc (.string ⟨#[]⟩)), .nl, (.sc (.string ⟨#[]⟩)), (.sc (.int .i64 0)), (.sc (.bool false)), (.sc (.int .i64 0)), (.sc (.bool false)), (.sc (.string ⟨#[]⟩)), .nl, (.sc (.int .i64 0)), (.sc (.bool false)), (.sc (.bool false)), (.sc (.string ⟨#[]⟩)), (.sc (.bool false)), .nl, (.sc (.int .i64 0)), (.sc (.bool false)), .nl, .nl, .nl], true, true⟩]
 refine lm_store B104 rfl (a101.len.trans (lenOut _)) (a101.leaf (flOut _)) fun G127 B129 q128 => ?_
 replace B1 := blk_kept B1 q128 (by omega)
 replace a36 := a36.kept q128 (by omega)
 replace a38 := a38.kept q128 (by omega)
 replace B52 := blk_kept B52 q128 (by omega)
 replace B55 := blk_kept B55 q128 (by omega)
 replace a60 := a60.kept q128 (by omega)
 replace B66 := blk_kept B66 q128 (by omega)
 replace a101 := a101.kept q128 (by omega)
 replace a103 := a103.kept q128 (by omega)
 replace B115 := blk_kept B115 q128 (by omega)
 refine lm_store B115 rfl (a103.len.trans (lenPacket _)) (a103.leaf (flPacket _)) fun G130 B132 q131 => ?_
 replace B1 := blk_kept B1 q131 (by omega)
 replace a36 := a36.kept q131 (by omega)
 replace a38 := a38.kept q131 (by omega)
 replace B52 := blk_kept B52 q131 (by omega)
 replace B55 := blk_kept B55 q131 (by omega)
 replace a60 := a60.kept q131 (by omega)
 replace B66 := blk_kept B66 q131 (by omega)
 replace a101 := a101.kept q131 (by omega)
 replace a103 := a103.kept q131 (by omega)
 replace B129 := blk_kept B129 q131 (by omega)
 refine lw_ld B129 (a101.len.trans (lenOut _)) ?_
 refine lw_ld B52 (a36.len.trans (lenOut _)) ?_
 refine lm_eq rfl (vcons (a101.vw (okWOut 4 (vOutNext x0))) (vcons (a36.vw (okWOut 4 (vOutNext x0))) vnil)) (eqF_Out (n + 24) (by omega) _ (vOutNext x0) s6w) ?_
 refine lm_not ?_
 refine lm_gf ?_
 refine lw_ld B132 (a103.len.trans (lenPacket _)) ?_
 refine lm_gf ?_
 refine lw_ld B55 (a38.len.trans (lenPacket _)) ?_
 refine lm_gf ?_
 refine lm_eq rfl (vcons (a103.vw (okWPacket 5 (vOutNextP x0))) (vcons (a38.vw (okWPacket 5 (vOutNextP x0))) vnil)) (eqF_Packet (n + 26) (by omega) _ (vOutNextP x0) s8w) ?_
 refine lm_gf ?_
 refine lm_not ?_
 refine lm_pk ?_
 refine lm_gf ?_
 refine lm_gf ?_
 refine lm_gf ?_
 refine lm_neB ?_
 refine lm_pk ?_
 refine lm_cf ?_
 refine lw_ld B66 (a60.len.trans (lenOut _)) ?_
 refine lw_ld B1 (lenOut x0) ?_
 refine lm_agg rfl (vcons (Vw_agg _ (flOut x0)) vnil) (toF_Out (n + 24) (by omega) x0 (by omega)) tyOut fun y136 X134 N133 n135 a137 => ?_
 have o138 : i2 < N133 := by have := (List.getElem?_eq_some_iff.1 B1).1; omega
 have o139 : N15 + nbL (encOut (vOutNext x0)) ≤ N133 := by have := a36.2.1; omega
 have o140 : (N15 + nbT (.agg (encOut (vOutNext x0)))) + nbL (encPacket (vOutNextP x0)) ≤ N133 := by have := a38.2.1; omega
 have o141 : i40 < N133 := by have := (List.getElem?_eq_some_iff.1 B52).1; omega
 have o142 : i45 < N133 := by have := (List.getElem?_eq_some_iff.1 B55).1; omega
 have o143 : N56 + nbL (encOut (x0)) ≤ N133 := by have := a60.2.1; omega
 have o144 : i67 < N133 := by have := (List.getElem?_eq_some_iff.1 B66).1; omega
 have o145 : N74 + nbL (encOut (vOutNext x0)) ≤ N133 := by have := a101.2.1; omega
 have o146 : (N74 + nbT (.agg (encOut (vOutNext x0)))) + nbL (encPacket (vOutNextP x0)) ≤ N133 := by have := a103.2.1; omega
 have o147 : i105 < N133 := by have := (List.getElem?_eq_some_iff.1 B129).1; omega
 have o148 : i116 < N133 := by have := (List.getElem?_eq_some_iff.1 B132).1; omega
 replace B1 := blk_grow B1 X134
 replace a36 := a36.grow X134
 replace a38 := a38.grow X134
 replace B52 := blk_grow B52 X134
 replace B55 := blk_grow B55 X134
 replace a60 := a60.grow X134
 replace B66 := blk_grow B66 X134
 replace a101 := a101.grow X134
 replace a103 := a103.grow X134
 replace B129 := blk_grow B129 X134
 replace B132 := blk_grow B132 X134
 refine lm_eq rfl (vcons (a60.vw (okWOut 4 (x0))) (vcons (a137.vw (okWOut 4 (x0))) vnil)) (eqF_Out (n + 24) (by omega) _ (x0) s3w) ?_
 refine lm_not ?_
 refine lm_cf ?_
 refine lw_ld B66 (a60.len.trans (lenOut _)) ?_
 refine lm_markv (mk_OutV (n + 25) (by omega)) rfl a60 (wfvOut _ s3) (by omega) (by omega) fun G149 a151 q150 => ?_
 replace B1 := blk_kept B1 q150 (by omega)
 replace a36 := a36.kept q150 (by omega)
 replace a38 := a38.kept q150 (by omega)
 replace B52 := blk_kept B52 q150 (by omega)
 replace B55 := blk_kept B55 q150 (by omega)
 replace a101 := a101.kept q150 (by omega)
 replace a103 := a103.kept q150 (by omega)
 replace B129 := blk_kept B129 q150 (by omega)
 replace B132 := blk_kept B132 q150 (by omega)
 refine lm_neg (by omega) ?_
 refine lm_gf ?_
 refine lw_ld B129 (a101.len.trans (lenOut _)) ?_
 refine lm_gf ?_
 refine lw_ld B52 (a36.len.trans (lenOut _)) ?_
 refine lm_gf ?_
 refine lm_eq rfl (vcons (a101.vw (okWOut 4 (vOutNext x0))) (vcons (a36.vw (okWOut 4 (vOutNext x0))) vnil)) (eqF_Out (n + 24) (by omega) _ (vOutNext x0) s6w) ?_
 refine lm_gf ?_
 refine lm_not ?_
 refine lm_pk ?_
 refine lm_gf ?_
 refine lw_ld B132 (a103.len.trans (lenPacket _)) ?_
 refine lm_gf ?_
 refine lw_ld B55 (a38.len.trans (lenPacket _)) ?_
 refine lm_gf ?_
 refine lm_eq rfl (vcons (a103.vw (okWPacket 5 (vOutNextP x0))) (vcons (a38.vw (okWPacket 5 (vOutNextP x0))) vnil)) (eqF_Packet (n + 26) (by omega) _ (vOutNextP x0) s8w) ?_
 refine lm_gf ?_
 refine lm_not ?_
 refine lm_pk ?_
 refine lm_gf ?_
 refine lm_gf ?_
 refine lm_gf ?_
 refine lm_neB ?_
 refine lm_pk ?_
 refine lm_cf ?_
 refine lw_ld B129 (a101.len.trans (lenOut _)) ?_
 refine lm_markv (mk_OutV (n + 25) (by omega)) rfl a101 (wfvOut _ s6) (by omega) (by omega) fun G152 a154 q153 => ?_
 replace B1 := blk_kept B1 q153 (by omega)
 replace a36 := a36.kept q153 (by omega)
 replace a38 := a38.kept q153 (by omega)
 replace B52 := blk_kept B52 q153 (by omega)
 replace B55 := blk_kept B55 q153 (by omega)
 replace a103 := a103.kept q153 (by omega)
 replace B129 := blk_kept B129 q153 (by omega)
 replace B132 := blk_kept B132 q153 (by omega)
 refine lw_ld B132 (a103.len.trans (lenPacket _)) ?_
 refine lm_markv (mk_PacketV (n + 26) (by omega)) rfl a103 (wfvPacket _ s8) (by omega) (by omega) fun G155 a157 q156 => ?_
 replace B1 := blk_kept B1 q156 (by omega)
 replace a36 := a36.kept q156 (by omega)
 replace a38 := a38.kept q156 (by omega)
 replace B52 := blk_kept B52 q156 (by omega)
 replace B55 := blk_kept B55 q156 (by omega)
 replace a154 := a154.kept q156 (by rw [mkL_nb]; omega)
 replace B129 := blk_kept B129 q156 (by omega)
 replace B132 := blk_kept B132 q156 (by omega)
 refine lw_ld B129 (a101.len.trans (lenOut _)) ?_
 refine lm_heldv (hd_OutV (n + 25) (by omega)) (a154.vw (okLW_mk7 _ _ (okWOut 4 (vOutNext x0)))) (wfvOut _ s6) (by omega) (by omega) ?_
 refine lw_ld B132 (a103.len.trans (lenPacket _)) ?_
 refine lm_heldv (hd_PacketV (n + 26) (by omega)) (a157.vw (okLW_mk7 _ _ (okWPacket 5 (vOutNextP x0)))) (wfvPacket _ s8) (by omega) (by omega) ?_
 refine lm_neI ?_
 refine lm_cf ?_
 refine lw_ld B1 (lenOut x0) ?_
 refine lm_agg rfl (vcons (Vw_agg _ (flOut x0)) vnil) (toF_Out (n + 24) (by omega) x0 (by omega)) tyOut fun y161 X159 N158 n160 a162 => ?_
 have o163 : N15 + nbL (encOut (vOutNext x0)) ≤ N158 := by have := a36.2.1; omega
 have o164 : (N15 + nbT (.agg (encOut (vOutNext x0)))) + nbL (encPacket (vOutNextP x0)) ≤ N158 := by have := a38.2.1; omega
 have o165 : i40 < N158 := by have := (List.getElem?_eq_some_iff.1 B52).1; omega
 have o166 : i45 < N158 := by have := (List.getElem?_eq_some_iff.1 B55).1; omega
 have o167 : N74 + nbL (encOut (vOutNext x0)) ≤ N158 := by have := a154.2.1; rw [mkL_nb] at this; omega
 have o168 : (N74 + nbT (.agg (encOut (vOutNext x0)))) + nbL (encPacket (vOutNextP x0)) ≤ N158 := by have := a157.2.1; rw [mkL_nb] at this; omega
 have o169 : i105 < N158 := by have := (List.getElem?_eq_some_iff.1 B129).1; omega
 have o170 : i116 < N158 := by have := (List.getElem?_eq_some_iff.1 B132).1; omega
 replace a36 := a36.grow X159
 replace a38 := a38.grow X159
 replace B52 := blk_grow B52 X159
 replace B55 := blk_grow B55 X159
 replace a154 := a154.grow X159
 replace a157 := a157.grow X159
 replace B129 := blk_grow B129 X159
 replace B132 := blk_grow B132 X159
 refine lm_tup rfl (vcons (a162.vw (okWOut 4 (x0))) vnil) (implF_OutNext (n + 16) (by omega) x0 k0 (by omega)) rfl fun ys174 X172 N171 n173 a175 => ?_
 have o176 : N15 + nbL (encOut (vOutNext x0)) ≤ N171 := by have := a36.2.1; omega
 have o177 : (N15 + nbT (.agg (encOut (vOutNext x0)))) + nbL (encPacket (vOutNextP x0)) ≤ N171 := by have := a38.2.1; omega
 have o178 : i40 < N171 := by have := (List.getElem?_eq_some_iff.1 B52).1; omega
 have o179 : i45 < N171 := by have := (List.getElem?_eq_some_iff.1 B55).1; omega
 have o180 : N74 + nbL (encOut (vOutNext x0)) ≤ N171 := by have := a154.2.1; rw [mkL_nb] at this; omega
 have o181 : (N74 + nbT (.agg (encOut (vOutNext x0)))) + nbL (encPacket (vOutNextP x0)) ≤ N171 := by have := a157.2.1; rw [mkL_nb] at this; omega
 have o182 : i105 < N171 := by have := (List.getElem?_eq_some_iff.1 B129).1; omega
 have o183 : i116 < N171 := by have := (List.getElem?_eq_some_iff.1 B132).1; omega
 replace a36 := a36.grow X172
 replace a38 := a38.grow X172
 replace B52 := blk_grow B52 X172
 replace B55 := blk_grow B55 X172
 replace a154 := a154.grow X172
 replace a157 := a157.grow X172
 replace B129 := blk_grow B129 X172
 replace B132 := blk_grow B132 X172
 obtain ⟨y184, ys185, rfl, a186, a187⟩ := a175.cons
 have nb188 : nbT (.agg (encOut (vOutNext x0))) = nbL (encOut (vOutNext x0)) := rfl
 obtain ⟨y189, ys190, rfl, a191, a192⟩ := a187.cons
 have nb193 : nbT (.agg (encPacket (vOutNextP x0))) = nbL (encPacket (vOutNextP x0)) := rfl
 obtain ⟨y194, ys195, rfl, a196, a197⟩ := a192.cons
 obtain rfl := a197.nil
 refine lm_ex rfl ?_
 obtain ⟨ys198, rfl, a199⟩ := a186.agg tyOut
 refine lm_ex rfl ?_
 obtain ⟨ys200, rfl, a201⟩ := a191.agg tyPacket
 refine lm_ex rfl ?_
 obtain rfl := a196.sc
 refine w_new fun i203 i203E B202 => ?_
 have o204 : N15 + nbL (encOut (vOutNext x0)) ≤ i203 := by have := a36.2.1; omega
 have o205 : (N15 + nbT (.agg (encOut (vOutNext x0)))) + nbL (encPacket (vOutNextP x0)) ≤ i203 := by have := a38.2.1; omega
 have o206 : i40 < i203 := by have := (List.getElem?_eq_some_iff.1 B52).1; omega
 have o207 : i45 < i203 := by have := (List.getElem?_eq_some_iff.1 B55).1; omega
 have o208 : N74 + nbL (encOut (vOutNext x0)) ≤ i203 := by have := a154.2.1; rw [mkL_nb] at this; omega
 have o209 : (N74 + nbT (.agg (encOut (vOutNext x0)))) + nbL (encPacket (vOutNextP x0)) ≤ i203 := by have := a157.2.1; rw [mkL_nb] at this; omega
 have o210 : i105 < i203 := by have := (List.getElem?_eq_some_iff.1 B129).1; omega
 have o211 : i116 < i203 := by have := (List.getElem?_eq_some_iff.1 B132).1; omega
 have o212 : N171 + nbL (encOut (vOutNext x0)) ≤ i203 := by have := a199.2.1; omega
 have o213 : (N171 + nbT (.agg (encOut (vOutNext x0)))) + nbL (encPacket (vOutNextP x0)) ≤ i203 := by have := a201.2.1; omega
 replace a36 := a36.grow [⟨[(.sc (.int .i64 0)), .nl, .nl], true, true⟩]
 replace a38 := a38.grow [⟨[(.sc (.int .i64 0)), .nl, .nl], true, true⟩]
 replace B52 := blk_grow B52 [⟨[(.sc (.int .i64 0)), .nl, .nl], true, true⟩]
 replace B55 := blk_grow B55 [⟨[(.sc (.int .i64 0)), .nl, .nl], true, true⟩]
 replace a154 := a154.grow [⟨[(.sc (.int .i64 0)), .nl, .nl], true, true⟩]
 replace a157 := a157.grow [⟨[(.sc (.int .i64 0)), .nl, .nl], true, true⟩]
 replace B129 := blk_grow B129 [⟨[(.sc (.int .i64 0)), .nl, .nl], true, true⟩]
 replace B132 := blk_grow B132 [⟨[(.sc (.int .i64 0)), .nl, .nl], true, true⟩]
 replace a199 := a199.grow [⟨[(.sc (.int .i64 0)), .nl, .nl], true, true⟩]
 replace a201 := a201.grow [⟨[(.sc (.int .i64 0)), .nl, .nl], true, true⟩]
 refine w_new fun i215 i215E B214 => ?_
 have o216 : N15 + nbL (encOut (vOutNext x0)) ≤ i215 := by have := a36.2.1; omega
 have o217 : (N15 + nbT (.agg (encOut (vOutNext x0)))) + nbL (encPacket (vOutNextP x0)) ≤ i215 := by have := a38.2.1; omega
 have o218 : i40 < i215 := by have := (List.getElem?_eq_some_iff.1 B52).1; omega
 have o219 : i45 < i215 := by have := (List.getElem?_eq_some_iff.1 B55).1; omega
 have o220 : N74 + nbL (encOut (vOutNext x0)) ≤ i215 := by have := a154.2.1; rw [mkL_nb] at this; omega
 have o221 : (N74 + nbT (.agg (encOut (vOutNext x0)))) + nbL (encPacket (vOutNextP x0)) ≤ i215 := by have := a157.2.1; rw [mkL_nb] at this; omega
 have o222 : i105 < i215 := by have := (List.getElem?_eq_some_iff.1 B129).1; omega
 have o223 : i116 < i215 := by have := (List.getElem?_eq_some_iff.1 B132).1; omega
 have o224 : N171 + nbL (encOut (vOutNext x0)) ≤ i215 := by have := a199.2.1; omega
 have o225 : (N171 + nbT (.agg (encOut (vOutNext x0)))) + nbL (encPacket (vOutNextP x0)) ≤ i215 := by have := a201.2.1; omega
 have o226 : i203 < i215 := by have := (List.getElem?_eq_some_iff.1 B202).1; omega
 replace a36 := a36.grow [⟨[(.sc (.int .i64 0)), (.sc (.bool false)), (.sc (.int .i64 0)), (.sc (.bool false)), (.sc (.int .i64 0)), (.sc (.string ⟨#[]⟩)), .nl, (.sc (.string ⟨#[]⟩)), (.sc (.int .i64 0)), (.sc (.bool false)), (.sc (.int .i64 0)), (.sc (.bool false)), (.sc (.string ⟨#[]⟩)), .nl, (.sc (.int .i64 0)), (.sc (.bool false)), (.sc (.bool false)), (.sc (.string ⟨#[]⟩)), (.sc (.bool false)), .nl, (.sc (.int .i64 0)), (.sc (.bool false)), .nl, .nl, .nl], true, true⟩]
 replace a38 := a38.grow [⟨[(.sc (.int .i64 0)), (.sc (.bool false)), (.sc (.int .i64 0)), (.sc (.bool false)), (.sc (.int .i64 0)), (.sc (.string ⟨#[]⟩)), .nl, (.sc (.string ⟨#[]⟩)), (.sc (.int .i64 0)), (.sc (.bool false)), (.sc (.int .i64 0)), (.sc (.bool false)), (.sc (.string ⟨#[]⟩)), .nl, (.sc (.int .i64 0)), (.sc (.bool false)), (.sc (.bool false)), (.sc (.string ⟨#[]⟩)), (.sc (.bool false)), .nl, (.sc (.int .i64 0)), (.sc (.bool false)), .nl, .nl, .nl], true, true⟩]
 replace B52 := blk_grow B52 [⟨[(.sc (.int .i64 0)), (.sc (.bool false)), (.sc (.int .i64 0)), (.sc (.bool false)), (.sc (.int .i64 0)), (.sc (.string ⟨#[]⟩)), .nl, (.sc (.string ⟨#[]⟩)), (.sc (.int .i64 0)), (.sc (.bool false)), (.sc (.int .i64 0)), (.sc (.bool false)), (.sc (.string ⟨#[]⟩)), .nl, (.sc (.int .i64 0)), (.sc (.bool false)), (.sc (.bool false)), (.sc (.string ⟨#[]⟩)), (.sc (.bool false)), .nl, (.sc (.int .i64 0)), (.sc (.bool false)), .nl, .nl, .nl], true, true⟩]
 replace B55 := blk_grow B55 [⟨[(.sc (.int .i64 0)), (.sc (.bool false)), (.sc (.int .i64 0)), (.sc (.bool false)), (.sc (.int .i64 0)), (.sc (.string ⟨#[]⟩)), .nl, (.sc (.string ⟨#[]⟩)), (.sc (.int .i64 0)), (.sc (.bool false)), (.sc (.int .i64 0)), (.sc (.bool false)), (.sc (.string ⟨#[]⟩)), .nl, (.sc (.int .i64 0)), (.sc (.bool false)), (.sc (.bool false)), (.sc (.string ⟨#[]⟩)), (.sc (.bool false)), .nl, (.sc (.int .i64 0)), (.sc (.bool false)), .nl, .nl, .nl], true, true⟩]
 replace a154 := a154.grow [⟨[(.sc (.int .i64 0)), (.sc (.bool false)), (.sc (.int .i64 0)), (.sc (.bool false)), (.sc (.int .i64 0)), (.sc (.string ⟨#[]⟩)), .nl, (.sc (.string ⟨#[]⟩)), (.sc (.int .i64 0)), (.sc (.bool false)), (.sc (.int .i64 0)), (.sc (.bool false)), (.sc (.string ⟨#[]⟩)), .nl, (.sc (.int .i64 0)), (.sc (.bool false)), (.sc (.bool false)), (.sc (.string ⟨#[]⟩)), (.sc (.bool false)), .nl, (.sc (.int .i64 0)), (.sc (.bool false)), .nl, .nl, .nl], true, true⟩]
 replace a157 := a157.grow [⟨[(.sc (.int .i64 0)), (.sc (.bool false)), (.sc (.int .i64 0)), (.sc (.bool false)), (.sc (.int .i64 0)), (.sc (.string ⟨#[]⟩)), .nl, (.sc (.string ⟨#[]⟩)), (.sc (.int .i64 0)), (.sc (.bool false)), (.sc (.int .i64 0)), (.sc (.bool false)), (.sc (.string ⟨#[]⟩)), .nl, (.sc (.int .i64 0)), (.sc (.bool false)), (.sc (.bool false)), (.sc (.string ⟨#[]⟩)), (.sc (.bool false)), .nl, (.sc (.int .i64 0)), (.sc (.bool false)), .nl, .nl, .nl], true, true⟩]
 replace B129 := blk_grow B129 [⟨[(.sc (.int .i64 0)), (.sc (.bool false)), (.sc (.int .i64 0)), (.sc (.bool false)), (.sc (.int .i64 0)), (.sc (.string ⟨#[]⟩)), .nl, (.sc (.string ⟨#[]⟩)), (.sc (.int .i64 0)), (.sc (.bool false)), (.sc (.int .i64 0)), (.sc (.bool false)), (.sc (.string ⟨#[]⟩)), .nl, (.sc (.int .i64 0)), (.sc (.bool false)), (.sc (.bool false)), (.sc (.string ⟨#[]⟩)), (.sc (.bool false)), .nl, (.sc (.int .i64 0)), (.sc (.bool false)), .nl, .nl, .nl], true, true⟩]
 replace B132 := blk_grow B132 [⟨[(.sc (.int .i64 0)), (.sc (.bool false)), (.sc (.int .i64 0)), (.sc (.bool false)), (.sc (.int .i64 0)), (.sc (.string ⟨#[]⟩)), .nl, (.sc (.string ⟨#[]⟩)), (.sc (.int .i64 0)), (.sc (.bool false)), (.sc (.int .i64 0)), (.sc (.bool false)), (.sc (.string ⟨#[]⟩)), .nl, (.sc (.int .i64 0)), (.sc (.bool false)), (.sc (.bool false)), (.sc (.string ⟨#[]⟩)), (.sc (.bool false)), .nl, (.sc (.int .i64 0)), (.sc (.bool false)), .nl, .nl, .nl], true, true⟩]
 replace a199 := a199.grow [⟨[(.sc (.int .i64 0)), (.sc (.bool false)), (.sc (.int .i64 0)), (.sc (.bool false)), (.sc (.int .i64 0)), (.sc (.string ⟨#[]⟩)), .nl, (.sc (.string ⟨#[]⟩)), (.sc (.int .i64 0)), (.sc (.bool false)), (.sc (.int .i64 0)), (.sc (.bool false)), (.sc (.string ⟨#[]⟩)), .nl, (.sc (.int .i64 0)), (.sc (.bool false)), (.sc (.bool false)), (.sc (.string ⟨#[]⟩)), (.sc (.bool false)), .nl, (.sc (.int .i64 0)), (.sc (.bool false)), .nl, .nl, .nl], true, true⟩]
 replace a201 := a201.grow [⟨[(.sc (.int .i64 0)), (.sc (.bool false)), (.sc (.int .i64 0)), (.sc (.bool false)), (.sc (.int .i64 0)), (.sc (.string ⟨#[]⟩)), .nl, (.sc (.string ⟨#[]⟩)), (.sc (.int .i64 0)), (.sc (.bool false)), (.sc (.int .i64 0)), (.sc (.bool false)), (.sc (.string ⟨#[]⟩)), .nl, (.sc (.int .i64 0)), (.sc (.bool false)), (.sc (.bool false)), (.sc (.string ⟨#[]⟩)), (.sc (.bool false)), .nl, (.sc (.int .i64 0)), (.sc (.bool false)), .nl, .nl, .nl], true, true⟩]
 replace B202 := blk_grow B202 [⟨[(.sc (.int .i64 0)), (.sc (.bool false)), (.sc (.int .i64 0)), (.sc (.bool false)), (.sc (.int .i64 0)), (.sc (.string ⟨#[]⟩)), .nl, (.sc (.string ⟨#[]⟩)), (.sc (.int .i64 0)), (.sc (.bool false)), (.sc (.int .i64 0)), (.sc (.bool false)), (.sc (.string ⟨#[]⟩)), .nl, (.sc (.int .i64 0)), (.sc (.bool false)), (.sc (.bool false)), (.sc (.string ⟨#[]⟩)), (.sc (.bool false)), .nl, (.sc (.int .i64 0)), (.sc (.bool false)), .nl, .nl, .nl], true, true⟩]
 refine lm_store B202 rfl (a199.len.trans (lenOut _)) (a199.leaf (flOut _)) fun G227 B229 q228 => ?_
 replace a36 := a36.kept q228 (by omega)
 replace a38 := a38.kept q228 (by omega)
 replace B52 := blk_kept B52 q228 (by omega)
 replace B55 := blk_kept B55 q228 (by omega)
 replace a154 := a154.kept q228 (by rw [mkL_nb]; omega)
 replace a157 := a157.kept q228 (by rw [mkL_nb]; omega)
 replace B129 := blk_kept B129 q228 (by omega)
 replace B132 := blk_kept B132 q228 (by omega)
 replace a199 := a199.kept q228 (by omega)
 replace a201 := a201.kept q228 (by omega)
 replace B214 := blk_kept B214 q228 (by omega)
 refine lm_store B214 rfl (a201.len.trans (lenPacket _)) (a201.leaf (flPacket _)) fun G230 B232 q231 => ?_
 replace a36 := a36.kept q231 (by omega)
 replace a38 := a38.kept q231 (by omega)
 replace B52 := blk_kept B52 q231 (by omega)
 replace B55 := blk_kept B55 q231 (by omega)
 replace a154 := a154.kept q231 (by rw [mkL_nb]; omega)
 replace a157 := a157.kept q231 (by rw [mkL_nb]; omega)
 replace B129 := blk_kept B129 q231 (by omega)
 replace B132 := blk_kept B132 q231 (by omega)
 replace a199 := a199.kept q231 (by omega)
 replace a201 := a201.kept q231 (by omega)
 replace B229 := blk_kept B229 q231 (by omega)
 refine lw_ld B229 (a199.len.trans (lenOut _)) ?_
 refine lw_ld B52 (a36.len.trans (lenOut _)) ?_
 refine lm_eq rfl (vcons (a199.vw (okWOut 4 (vOutNext x0))) (vcons (a36.vw (okWOut 4 (vOutNext x0))) vnil)) (eqF_Out (n + 24) (by omega) _ (vOutNext x0) s6w) ?_
 refine lm_not ?_
 refine lm_gf ?_
 refine lw_ld B232 (a201.len.trans (lenPacket _)) ?_
 refine lm_gf ?_
 refine lw_ld B55 (a38.len.trans (lenPacket _)) ?_
 refine lm_gf ?_
 refine lm_eq rfl (vcons (a201.vw (okWPacket 5 (vOutNextP x0))) (vcons (a38.vw (okWPacket 5 (vOutNextP x0))) vnil)) (eqF_Packet (n + 26) (by omega) _ (vOutNextP x0) s8w) ?_
 refine lm_gf ?_
 refine lm_not ?_
 refine lm_pk ?_
 refine lm_gf ?_
 refine lm_gf ?_
 refine lm_gf ?_
 refine lm_neB ?_
 refine lm_pk ?_
 refine lm_cf ?_
 refine lw_ld B129 (a101.len.trans (lenOut _)) ?_
 refine lm_heldv (hd_OutV (n + 25) (by omega)) (a154.vw (okLW_mk7 _ _ (okWOut 4 (vOutNext x0)))) (wfvOut _ s6) (by omega) (by omega) ?_
 refine lw_ld B132 (a103.len.trans (lenPacket _)) ?_
 refine lm_heldv (hd_PacketV (n + 26) (by omega)) (a157.vw (okLW_mk7 _ _ (okWPacket 5 (vOutNextP x0)))) (wfvPacket _ s8) (by omega) (by omega) ?_
 refine lm_neI ?_
 refine lm_cf ?_
 rfl
end Go.Proofs.YtdameggfgnpehaaGreatDoor.Abs
namespace Go.Proofs.YtdameggfgnpehaaGreatDoor.fnExactOutNext
open Go Go.Shelf Go.Lib Go.ChangeShapes Go.WideShapes Go.ChangeAt Go.RowKit
open Go.Proofs.YtdameggfgnpehaaGreatDoor.Abs
set_option linter.unusedVariables false
theorem own : ownKnob Tryz.prog.godebug = none := by kernel_rfl
theorem laidOut : laidOutB Tryz.prog = true := by kernel_rfl
theorem types : ([25].all (tyB ti0 14)) = true := by kernel_rfl
theorem readable : ([25].all fun t => Tryz.prog.readableRec t && decide (t < Tryz.prog.types.size)) = true := by kernel_rfl
theorem pure_ {xs : List AV} (h : okAs ti0 14 [25] xs) : ∃ n, tree E0 n 4 8 xs = some (.sc (.bool true)) := by
 obtain ⟨y0, ys0, rfl, ⟨cs0, h0, rfl⟩, h⟩ := h
 obtain rfl := h
 obtain ⟨x0, rfl, k0⟩ := okT_Out h0
 exact ⟨_, law_OutNext 1048577 (by omega) x0 k0⟩
def wArgs : Array Value := #[.agg #[.int .i64 0, .slice none 0 0, .slice none 0 0]]
noncomputable def laidWorld (os : Os) : World :=
 let w0 := World.holding Tryz.prog os ⟨#[], #[], []⟩
 let put (h : Array Obj) (g : Nat) (cs : Array Value) : Array Obj := h.modify g fun
  | .cells _ t frozen => .cells cs t frozen
  | o => o
 let h1 := put w0.heap 0 (Lib.firstTab.map fun z => Value.int .u8 z).toArray
 let h2 := put h1 1 ((List.range 16).flatMap fun i => [Value.int .u8 (Lib.accLo i), Value.int .u8 (Lib.accHi i)]).toArray
 { w0 with heap := h2 }
theorem laid_met (os : Os) (args : Array Value) : laidMet Tryz.prog Rows.fnExactOutNextRow.laid ((laidWorld os).forCall (fun _ _ => 0) ⟨#[], args, []⟩).memory :=
 (LaidIn.of_run (l := Rows.fnExactOutNextRow.laid) [0, 1] 8 (by kernel_rfl) (by kernel_rfl) (by kernel_rfl) (by kernel_rfl)).met
set_option maxRecDepth 100000 in
theorem witness_row (os : Os) {H : Type} (enc : TypeId × Value → H) :
  (OpenSpec.ofChange Rows.fnExactOutNextSpec).preRow enc Tryz.prog Tryz.f8 Rows.fnExactOutNextRow.domain false Rows.fnExactOutNextRow.laid ((laidWorld os).forCall (fun _ _ => 0) ⟨#[], wArgs, []⟩).memory wArgs := by
 have hw : ((DataW.whole enc Tryz.prog ((laidWorld os).forCall (fun _ _ => 0) ⟨#[], wArgs, []⟩).memory Tryz.f8.params.toList (OpenSpec.ofChange Rows.fnExactOutNextSpec).vars false wArgs.toList 8).map (fun x => x.2.1)) = some [] := by kernel_rfl
 obtain ⟨⟨x1, x2, x3⟩, hx, hx1⟩ := Option.map_eq_some_iff.1 hw
 simp only at hx1
 subst hx1
 exact OpenSpec.preRow_of_cond 8 hx rfl (fun k hk => by cases hk) rfl (laid_met os _)
set_option maxRecDepth 100000 in
set_option maxHeartbeats 2000000 in
theorem lifted (os : Os) (started : os.Started) (H : Type) (enc : TypeId × Value → H) (F : Stop.Interp) :
  ReturnsInHanded {} Tryz.checked os 8 .any ((OpenSpec.ofChange Rows.fnExactOutNextSpec).preRow enc Tryz.prog Tryz.f8 Rows.fnExactOutNextRow.domain false Rows.fnExactOutNextRow.laid) (((OpenSpec.ofChange Rows.fnExactOutNextSpec).at F).post enc Tryz.prog Tryz.f8 false true false false) := by
 refine returnsInHanded_of_row (C := Tryz.checked) (s := OpenSpec.ofChange Rows.fnExactOutNextSpec) own started (by kernel_rfl) Tryz.func8
  (witness_row_atRef (enc := enc) (C := Tryz.checked) false (laidWorld os) wArgs rfl (by kernel_rfl) (by kernel_rfl) (by kernel_rfl) (witness_row os enc)) ?_
 intro W base args ds gs before hval0 hW _ _ _ hL hS _
 have hval : ∀ (j : Nat) t v, Tryz.f8.params[j]? = some t → args[j]? = some v → Value.okWide Tryz.prog W .any base t v := hval0
 have hW' := hW
 obtain ⟨p, q, hA0, hV, rfl, hfz, hnd⟩ := hW
 have hA : DataW.TrodAll enc Tryz.prog W 0 (fun _ => true) true Tryz.f8.params.toList args.toList ds p := hA0
 rw [Tryz.params8] at hA hval
 obtain ⟨xs, hok, hl, hx⟩ := args_sound tabOk0 (n := 14) [25] args.toList ds p hA (fun j t v ht hv => hval j t v (by simpa using ht) (by simpa using hv)) types
 obtain ⟨m, hm⟩ := pure_ hok
 have htab0 := utf8Tabs_of_readsT (U8Types.of196 Tryz.laysValid) ⟨by kernel_rfl, by kernel_rfl, by kernel_rfl, by kernel_rfl, by kernel_rfl, by kernel_rfl, by kernel_rfl⟩ (Pinned.utf8First_eq ▸ Lib.laidMet.reads hL (.tail _ (.head _))) (Lib.laidMet.reads hL (.head _))
 have htab : J0 W := ⟨htab0, cell_of_shapedOpen_int (zero := #[.int .i64 0]) hS (of_decide_eq_true (by kernel_rfl)) (by kernel_rfl) rfl (by kernel_rfl) (by kernel_rfl) Tryz.underlying3⟩
 have hc := tree_bool env0 hm (w := W) htab hl hx
 have hA1 := hA
 obtain ⟨v0, vs0, d0, ds0, p0, q0, hargs, rfl, rfl, g0, r0⟩ := trodAll_cons hA
 obtain ⟨rfl, rfl, rfl⟩ := trodAll_nil r0
 obtain ⟨rfl, rfl⟩ := trodVars_none hV
 have hc2 : Calls Tryz.prog 8 args W fun e W' => e = .returned (.bool true) ∧ Below W.heap.size W W' := by simpa using hc
 refine hc2.mono fun e W' ⟨he, bel⟩ => ?_
 subst he
 exact ⟨_, rfl, _, _, _, [], _, [], hW', trodAll_mk1 (shut_bool Tryz.underlying4 _), trodAll_stays laidOut bel readable hA1, rfl, bel.frame _, fun h => by cases h⟩
theorem over : Rows.FnExactOutNextSaid :=
 OpenClaim.holds_of_cond 8 Tryz.f8 rfl rfl rfl rfl rfl rfl rfl ⟨rfl, rfl, rfl, rfl, rfl⟩ rfl rfl rfl rfl rfl (by kernel_rfl) Tryz.func8 (by kernel_rfl)
  (of_decide_eq_true (by kernel_rfl)) (by unfold Func.isWrapper; first | (rw [if_pos (by decide +kernel)]; kernel_rfl) | (rw [if_neg (by decide +kernel)]; exact ⟨rfl, rfl⟩))
  (fun os started H enc _ F0 => by rw [OpenClaim.pre_eq_preRow]; exact lifted os started H enc F0)
theorem proved : Rows.FnExactOutNextCardSaid :=
 Claim7.holds_tied_plain_at .later [] [.data, .pinned] true (true, "d1b91b330fda59fc0eb76e17956115e5b3e2cbd158420e2d743d37a1d947cb70") false
  over (fun _ h => by cases h) (by kernel_rfl) (fun _ h => by cases h) fnExactOutNext_row_tie rfl ⟨rfl, rfl⟩ (by kernel_rfl) rfl
  (fun f fn hf hfn => by
   obtain rfl : f = 8 := Option.some.inj ((show Tryz.prog.funcNamed "loop.example/g00480/laws.FnExactOutNext" = some 8 by kernel_rfl).symm.trans hf) |>.symm
   obtain rfl : fn = Tryz.f8 := (Option.some.inj (Tryz.func8.symm.trans hfn)).symm
   exact ⟨by kernel_rfl, fun j t ht => by
    rw [Tryz.params8] at ht
    have hm : t ∈ [25] := by simpa using Array.mem_of_getElem? ht
    have hall : ([25].all fun u => !Tryz.prog.wantsStandIn u) = true := by kernel_rfl
    exact (show Tryz.prog.wantsStandIn t = false by simpa using List.all_eq_true.1 hall t hm)⟩)
  (by kernel_rfl)
#print axioms proved
end Go.Proofs.YtdameggfgnpehaaGreatDoor.fnExactOutNext
namespace Go.Proofs.YtdameggfgnpehaaGreatDoor
theorem fnExactOutNext_holds : Rows.FnExactOutNextCardSaid := fnExactOutNext.proved
end Go.Proofs.YtdameggfgnpehaaGreatDoor
