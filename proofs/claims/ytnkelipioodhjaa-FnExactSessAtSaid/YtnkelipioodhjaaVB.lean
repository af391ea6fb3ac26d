/- What is said of SessAt (written by stmts.py). -/
import Derived.Test.YtnkelipioodhjaaTypes
import Derived.Test.YtnkelipioodhjaaWalk
set_option linter.unusedVariables false
set_option linter.unusedSimpArgs false
namespace Go.Proofs.Ytnkelipioodhjaa.Abs
open Go
def vIn (x lo hi : Int) : Bool := decide (lo ≤ x) && decide (x ≤ hi)
theorem l1InF (n : Nat) (ty : Nat) (x : Int) (lo : Int) (hi : Int) : tree E0 (n + 1) ty 61 [.sc (.int .i64 x), .sc (.int .i64 lo), .sc (.int .i64 hi)] = some (.sc (.bool (vIn x lo hi))) := by
  rw [tree_def, f61_eq, f61]
  simp only [PR_box, PR_new, PR_fadr, PR_load, PR_store, PR_bin, PR_binB, PR_un, PR_cond, PR_guard, PR_pick, PR_len, PR_lenS, PR_iadr, PR_idx, PR_slice, PR_sliceS, PR_newSl, PR_fill, PR_make, PR_app, PR_cvI, PR_cvBS]
  refine w_bin (v := .sc (.bool (decide (x ≥ lo)))) (fun k => rfl) ?_
  refine w_split ((decide (x ≥ lo))) (fun h1 => ?_) (fun h1 => ?_)
  · refine w_gT h1 ?_
    refine w_gT h1 ?_
    refine w_gT h1 ?_
    refine w_bin (v := .sc (.bool (decide (x ≤ hi)))) (fun k => rfl) ?_
    refine w_pT h1 ?_
    exact w_endB (by first | (simp_all [vIn]; done) | (rw [Bool.eq_iff_iff]; simp [vIn] at *; omega))
  · refine w_gF h1 ?_
    refine w_gF h1 ?_
    refine w_gF h1 ?_
    refine w_pF h1 ?_
    exact w_endB (by first | (simp_all [vIn]; done) | (rw [Bool.eq_iff_iff]; simp [vIn] at *; omega))
theorem withinF (n : Nat) (ty : Nat) (x : Int) (lo : Int) (hi : Int) : tree E0 (n + 1) ty 72 [.sc (.int .i64 x), .sc (.int .i64 lo), .sc (.int .i64 hi)] = some (.sc (.bool (vIn x lo hi))) := by
  rw [tree_def, f72_eq, f72]
  simp only [PR_box, PR_new, PR_fadr, PR_load, PR_store, PR_bin, PR_binB, PR_un, PR_cond, PR_guard, PR_pick, PR_len, PR_lenS, PR_iadr, PR_idx, PR_slice, PR_sliceS, PR_newSl, PR_fill, PR_make, PR_app, PR_cvI, PR_cvBS]
  refine w_bin (v := .sc (.bool (decide (x ≥ lo)))) (fun k => rfl) ?_
  refine w_split ((decide (x ≥ lo))) (fun h1 => ?_) (fun h1 => ?_)
  · refine w_gT h1 ?_
    refine w_gT h1 ?_
    refine w_gT h1 ?_
    refine w_bin (v := .sc (.bool (decide (x ≤ hi)))) (fun k => rfl) ?_
    refine w_pT h1 ?_
    exact w_endB (by first | (simp_all [vIn]; done) | (rw [Bool.eq_iff_iff]; simp [vIn] at *; omega))
  · refine w_gF h1 ?_
    refine w_gF h1 ?_
    refine w_gF h1 ?_
    refine w_pF h1 ?_
    exact w_endB (by first | (simp_all [vIn]; done) | (rw [Bool.eq_iff_iff]; simp [vIn] at *; omega))
theorem l1SameF (n : Nat) (ty : Nat) (s t : ByteArray) : tree E0 (n + 1) ty 107 [bytesC s, bytesC t] = some (.sc (.bool (s.toList == t.toList))) := by
  rw [tree_def, f107_eq, f107]
  have e : ∀ u : ByteArray, content [] 1 (.ro u.size (bytesAV u)) = some (bytesAV u) := by
    intro u
    simp [content, bytesAV_len]
  have eb : ∀ u : ByteArray, (bytesAV u).mapM byteOf = some u.data.toList := fun u => byteOf_bytes _
  simp only [PR_cvBS, PR_bin, pCvBS, e, eb, Option.bind_some, pBin, binS]
  simp
theorem bytesEqualF (n : Nat) (ty : Nat) (s t : ByteArray) : tree E0 (n + 1) ty 109 [bytesC s, bytesC t] = some (.sc (.bool (s.toList == t.toList))) := by
  rw [tree_def, f109_eq, f109]
  have e : ∀ u : ByteArray, content [] 1 (.ro u.size (bytesAV u)) = some (bytesAV u) := by
    intro u
    simp [content, bytesAV_len]
  have eb : ∀ u : ByteArray, (bytesAV u).mapM byteOf = some u.data.toList := fun u => byteOf_bytes _
  simp only [PR_cvBS, PR_bin, pCvBS, e, eb, Option.bind_some, pBin, binS]
  simp
def vSessAt (s : StripeV) (c : ByteArray) : Int := idxOf (fun x : SessV => x.fClient.toList == c.toList) s.fL 0
theorem specSessAt_loop (n : Nat) (k : AV → Heap → Option AV) (H : Heap) (s : StripeV) (c : ByteArray) (i0 : Nat) (hi : H[i0]? = some ⟨encStripe s, true, true⟩) (hlen : s.fL.length ≤ 1048576) : ∀ (r pre : List SessV) (m : Nat), s.fL = pre ++ r → r.length < m → f12_l0 (PR n AV) n k m (.sc (.string c)) (.ptr i0 0) (.sc (.int .i64 pre.length)) H = k (.sc (.int .i64 (idxOf (fun x : SessV => x.fClient.toList == c.toList) r pre.length))) H
  | [], pre, m + 1, hl, hm => by
    rw [List.append_nil] at hl
    rw [f12_l0]
    simp only [PR_fadr, PR_load, PR_len, PR_bin, PR_cond]
    refine w_fadr ?_
    refine w_ld (c := rowsC encSess s.fL) hi (Nat.le_of_ble_eq_true rfl) rfl ?_
    rw [len_ro, lss_nat, cond_b, if_neg (by rw [hl]; simp), idxOf]
  | x :: r, pre, m + 1, hl, hm => by
    have hlt : pre.length < s.fL.length := by rw [hl]; simp
    rw [f12_l0]
    simp only [PR_fadr, PR_load, PR_len, PR_bin, PR_cond, PR_iadr]
    refine w_fadr ?_
    refine w_ld (c := rowsC encSess s.fL) hi (Nat.le_of_ble_eq_true rfl) rfl ?_
    rw [len_ro, lss_nat, cond_b, if_pos (by simpa using hlt)]
    refine w_fadr ?_
    refine w_ld (c := rowsC encSess s.fL) hi (Nat.le_of_ble_eq_true rfl) rfl ?_
    have hel := fun k => el_ro (β := AV) lenSess (by decide) pre x r k
    rw [← hl] at hel
    rw [hel]
    refine w_fadr_rp ?_
    refine w_ld_rp (c := .sc (.string x.fClient)) rfl ?_
    rw [eqlS, cond_b, idxOf]
    cases hx : (x.fClient.toList == c.toList)
    · simp only [Bool.false_eq_true, if_false]
      rw [inc_nat _ _ (by omega)]
      have ih := specSessAt_loop n k H s c i0 hi hlen r (pre ++ [x]) m (by rw [hl]; simp) (by simpa using hm)
      rw [List.length_append, List.length_singleton] at ih
      exact ih
    · simp only [if_true]
theorem specF_SessAt (n : Nat) (hn : 1048576 < n) (s : StripeV) (c : ByteArray) (k0 : okStripe s) (k1 : okS c) (b0 : wtStripe s ≤ 1048576) (b1 : c.size ≤ 1048576) : tree E0 (n + 1) 3 12 [.agg (encStripe s), .sc (.string c)] = some (.sc (.int .i64 (vSessAt s c))) := by
  have hlen : s.fL.length ≤ 1048576 := by unfold wtStripe at b0; have := wtL_eq wtSess s.fL; omega
  rw [tree_def, f12_eq, f12]
  simp only [PR_box]
  refine w_box (flStripe _) fun i e hi => ?_
  have key := specSessAt_loop n (fun x H => ownTree ti0 E0.tp 3 H x) _ s c i hi hlen s.fL [] n rfl (by omega)
  simp only [List.length_nil, Int.natCast_zero] at key
  rw [key]
  rfl
theorem sessAtClo (n : Nat) (ty : Nat) (x : SessV) (c : ByteArray) : tree E0 (n + 1) ty 44 [.agg (encSess x), .rp [.sc (.string c)]] = some (.sc (.bool (x.fClient.toList == c.toList))) := by
  rw [tree_def, f44_eq, f44]
  simp only [PR_box, PR_fadr, PR_load, PR_bin]
  refine w_box (flSess _) fun i e hi => ?_
  refine w_fadr ?_
  refine w_ld (c := .sc (.string x.fClient)) hi (Nat.le_of_ble_eq_true rfl) rfl ?_
  refine w_ld_rp (c := .sc (.string c)) rfl ?_
  rw [eqlS]
  rfl
theorem sessIndexF (n : Nat) (hn : 1048576 < n) (ty : Nat) (l : List SessV) (c : ByteArray) (hl : l.length ≤ 1048576) : tree E0 (n + 2) ty 43 [rowsC encSess l, .fn 44 [] [.rp [.sc (.string c)]]] = some (.sc (.int .i64 (idxOf (fun x : SessV => x.fClient.toList == c.toList) l 0))) := by
  rw [tree_def, f43_eq, f43]
  simp only [PR_len]
  rw [len_ro]
  have key := index_loop (n := n + 1) (tb := 4) (g := 44) (caps := [.rp [.sc (.string c)]]) encSess (fun x : SessV => x.fClient.toList == c.toList) (fun x H => ownTree ti0 E0.tp ty H x) lenSess (by decide) flSess rfl (fun H => rfl) (fun m a b c i H => f43_l0 (PR (n + 1) AV) (n + 1) (fun x H => ownTree ti0 E0.tp ty H x) m a b c i H) (fun m a b c i H => rfl) l (fun x _ => sessAtClo n _ x c) hl [] l [] (n + 1) rfl (by omega)
  simp only [List.length_nil, Int.natCast_zero] at key
  rw [key]
  rfl
theorem implF_SessAt (n : Nat) (hn : 1048576 < n) (s : StripeV) (c : ByteArray) (k0 : okStripe s) (k1 : okS c) (b0 : wtStripe s ≤ 1048576) (b1 : c.size ≤ 1048576) : tree E0 (n + 3) 3 14 [.agg (encStripe s), .sc (.string c)] = some (.sc (.int .i64 (vSessAt s c))) := by
  have hlen : s.fL.length ≤ 1048576 := by unfold wtStripe at b0; have := wtL_eq wtSess s.fL; omega
  rw [tree_def, f14_eq, f14]
  simp only [PR_box, PR_fadr, PR_load]
  refine w_box (flStripe _) fun i e hi => ?_
  refine w_boxS rfl fun i2 e2 hi2 => ?_
  replace hi := blk_grow hi [⟨[.sc (.string c)], true, true⟩]
  refine w_fadr ?_
  refine w_ld (c := rowsC encSess s.fL) hi (Nat.le_of_ble_eq_true rfl) rfl ?_
  refine lw_sc rfl (vcons (Vw_ro _ _ _) (vcons (Vw_fn1 hi2 rfl) vnil)) (sessIndexF n hn _ s.fL c hlen) ?_
  rfl

end Go.Proofs.Ytnkelipioodhjaa.Abs
