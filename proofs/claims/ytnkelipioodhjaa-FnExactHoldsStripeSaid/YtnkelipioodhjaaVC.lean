/- What is said of HoldsStripe (written by stmts.py). -/
import Derived.Test.YtnkelipioodhjaaTypes
import Derived.Test.YtnkelipioodhjaaWalk
set_option linter.unusedVariables false
set_option linter.unusedSimpArgs false
namespace Go.Proofs.Ytnkelipioodhjaa.Abs
open Go
def vIn (x lo hi : Int) : Bool := decide (lo ≤ x) && decide (x ≤ hi)
theorem l1InF (n : Nat) (ty : Nat) (x : Int) (lo : Int) (hi : Int) : tree E0 (n + 1) ty 61 [.sc (.int .i64 x), .sc (.int .i64 lo), .sc (.int .i64 hi)] = some (.sc (.bool (vIn x lo hi))) := by
  rw [tree_def, f61_eq, f61]
  simp only [PR_box, PR_new, PR_fadr, PR_load, PR_store, PR_bin, PR_binB, PR_un, PR_cond, PR_guard, PR_pick, PR_len, PR_lenS, PR_iadr, PR_idx, PR_slice, PR_sliceS, PR_newSl, PR_fill, PR_make, PR_app, PR_cvI, PR_cvBS]
  refine w_bin (v := .sc (.bool (decide (x ≥ lo)))) (fun k => rfl) ?_
  refine w_split ((decide (x ≥ lo))) (fun h1 => ?_) (fun h1 => ?_)
  · refine w_gT h1 ?_
    refine w_gT h1 ?_
    refine w_gT h1 ?_
    refine w_bin (v := .sc (.bool (decide (x ≤ hi)))) (fun k => rfl) ?_
    refine w_pT h1 ?_
    exact w_endB (by first | (simp_all [vIn]; done) | (rw [Bool.eq_iff_iff]; simp [vIn] at *; omega))
  · refine w_gF h1 ?_
    refine w_gF h1 ?_
    refine w_gF h1 ?_
    refine w_pF h1 ?_
    exact w_endB (by first | (simp_all [vIn]; done) | (rw [Bool.eq_iff_iff]; simp [vIn] at *; omega))
theorem withinF (n : Nat) (ty : Nat) (x : Int) (lo : Int) (hi : Int) : tree E0 (n + 1) ty 72 [.sc (.int .i64 x), .sc (.int .i64 lo), .sc (.int .i64 hi)] = some (.sc (.bool (vIn x lo hi))) := by
  rw [tree_def, f72_eq, f72]
  simp only [PR_box, PR_new, PR_fadr, PR_load, PR_store, PR_bin, PR_binB, PR_un, PR_cond, PR_guard, PR_pick, PR_len, PR_lenS, PR_iadr, PR_idx, PR_slice, PR_sliceS, PR_newSl, PR_fill, PR_make, PR_app, PR_cvI, PR_cvBS]
  refine w_bin (v := .sc (.bool (decide (x ≥ lo)))) (fun k => rfl) ?_
  refine w_split ((decide (x ≥ lo))) (fun h1 => ?_) (fun h1 => ?_)
  · refine w_gT h1 ?_
    refine w_gT h1 ?_
    refine w_gT h1 ?_
    refine w_bin (v := .sc (.bool (decide (x ≤ hi)))) (fun k => rfl) ?_
    refine w_pT h1 ?_
    exact w_endB (by first | (simp_all [vIn]; done) | (rw [Bool.eq_iff_iff]; simp [vIn] at *; omega))
  · refine w_gF h1 ?_
    refine w_gF h1 ?_
    refine w_gF h1 ?_
    refine w_pF h1 ?_
    exact w_endB (by first | (simp_all [vIn]; done) | (rw [Bool.eq_iff_iff]; simp [vIn] at *; omega))
theorem l1SameF (n : Nat) (ty : Nat) (s t : ByteArray) : tree E0 (n + 1) ty 107 [bytesC s, bytesC t] = some (.sc (.bool (s.toList == t.toList))) := by
  rw [tree_def, f107_eq, f107]
  have e : ∀ u : ByteArray, content [] 1 (.ro u.size (bytesAV u)) = some (bytesAV u) := by
    intro u
    simp [content, bytesAV_len]
  have eb : ∀ u : ByteArray, (bytesAV u).mapM byteOf = some u.data.toList := fun u => byteOf_bytes _
  simp only [PR_cvBS, PR_bin, pCvBS, e, eb, Option.bind_some, pBin, binS]
  simp
theorem bytesEqualF (n : Nat) (ty : Nat) (s t : ByteArray) : tree E0 (n + 1) ty 109 [bytesC s, bytesC t] = some (.sc (.bool (s.toList == t.toList))) := by
  rw [tree_def, f109_eq, f109]
  have e : ∀ u : ByteArray, content [] 1 (.ro u.size (bytesAV u)) = some (bytesAV u) := by
    intro u
    simp [content, bytesAV_len]
  have eb : ∀ u : ByteArray, (bytesAV u).mapM byteOf = some u.data.toList := fun u => byteOf_bytes _
  simp only [PR_cvBS, PR_bin, pCvBS, e, eb, Option.bind_some, pBin, binS]
  simp
def bsum : List UInt8 → Nat
  | [] => 0
  | c :: l => c.toNat + bsum l
def vStripe (s : ByteArray) : Int := ((bsum s.data.toList % 3 : Nat) : Int)
theorem specStripe_loop (n : Nat) (k : AV → Heap → Option AV) (H : Heap) (s : ByteArray) (hs : s.size ≤ 1048576) : ∀ (r pre : List UInt8) (a m : Nat), s.data.toList = pre ++ r → a < 3 → r.length < m → f71_l0 (PR n AV) n k m (.sc (.string s)) (.sc (.int .i64 a)) (.sc (.int .i64 pre.length)) H = k (.sc (.int .i64 (((a + bsum r) % 3 : Nat) : Int))) H
  | [], pre, a, m + 1, hl, ha, hm => by
    have h1 : s.size = pre.length := by
      have := congrArg List.length hl
      simpa using this
    rw [f71_l0]
    simp only [PR_lenS, PR_bin, PR_cond]
    rw [lenSc, lss_nat, h1, cond_b, if_neg (by simp), bsum, Nat.add_zero, Nat.mod_eq_of_lt ha]
  | c :: r, pre, a, m + 1, hl, ha, hm => by
    have h1 : s.size = pre.length + r.length + 1 := by
      have := congrArg List.length hl
      simpa [Nat.add_assoc] using this
    have hc := c.toNat_lt
    rw [f71_l0]
    simp only [PR_lenS, PR_bin, PR_cond, PR_idx, PR_cvI]
    rw [lenSc, lss_nat, cond_b, if_pos (by simp; omega), idx_s s pre.length c _ (by rw [hl]; simp)]
    simp only [pCvI, asI, Option.bind_some]
    rw [wrap64 _ (by omega) (by omega), add64, ← Int.natCast_add, wrap64 _ (by omega) (by omega)]
    have hm3 : ∀ k : AV → Option AV, pBin .rem (.sc (.int .i64 ((a + c.toNat : Nat) : Int))) (.sc (.int .i64 3)) k = k (.sc (.int .i64 (((a + c.toNat) % 3 : Nat) : Int))) := fun k => rfl
    rw [hm3, inc_nat _ _ (by omega)]
    have ih := specStripe_loop n k H s hs r (pre ++ [c]) ((a + c.toNat) % 3) m (by rw [hl]; simp) (Nat.mod_lt _ (by decide)) (by simpa using hm)
    rw [List.length_append, List.length_singleton] at ih
    rw [ih, bsum]
    congr 4
    omega
theorem implStripe_loop (n : Nat) (k : AV → Heap → Option AV) (H : Heap) (s : ByteArray) (hs : s.size ≤ 1048576) : ∀ (r pre : List UInt8) (a m : Nat), s.data.toList = pre ++ r → a ≤ 255 * pre.length → r.length < m → f73_l0 (PR n AV) n k m (.sc (.string s)) (.sc (.int .i64 a)) (.sc (.int .i64 pre.length)) H = k (.sc (.int .i64 (((a + bsum r) % 3 : Nat) : Int))) H
  | [], pre, a, m + 1, hl, ha, hm => by
    have h1 : s.size = pre.length := by
      have := congrArg List.length hl
      simpa using this
    rw [f73_l0]
    simp only [PR_lenS, PR_bin, PR_cond]
    have hm3 : ∀ k : AV → Option AV, pBin .rem (.sc (.int .i64 (a : Int))) (.sc (.int .i64 3)) k = k (.sc (.int .i64 ((a % 3 : Nat) : Int))) := fun k => rfl
    rw [lenSc, lss_nat, h1, cond_b, if_neg (by simp), hm3, bsum, Nat.add_zero]
  | c :: r, pre, a, m + 1, hl, ha, hm => by
    have h1 : s.size = pre.length + r.length + 1 := by
      have := congrArg List.length hl
      simpa [Nat.add_assoc] using this
    have hc := c.toNat_lt
    rw [f73_l0]
    simp only [PR_lenS, PR_bin, PR_cond, PR_idx, PR_cvI]
    rw [lenSc, lss_nat, cond_b, if_pos (by simp; omega), idx_s s pre.length c _ (by rw [hl]; simp)]
    simp only [pCvI, asI, Option.bind_some]
    rw [wrap64 _ (by omega) (by omega), add64, ← Int.natCast_add, wrap64 _ (by omega) (by omega), inc_nat _ _ (by omega)]
    have ih := implStripe_loop n k H s hs r (pre ++ [c]) (a + c.toNat) m (by rw [hl]; simp) (by rw [List.length_append, List.length_singleton]; omega) (by simpa using hm)
    rw [List.length_append, List.length_singleton] at ih
    rw [ih, bsum, Nat.add_assoc]
theorem specStripeF (n : Nat) (hn : 1048576 < n) (ty : Nat) (s : ByteArray) (hs : s.size ≤ 1048576) : tree E0 (n + 1) ty 71 [.sc (.string s)] = some (.sc (.int .i64 (vStripe s))) := by
  rw [tree_def, f71_eq, f71]
  have key := specStripe_loop n (fun x H => ownTree ti0 E0.tp ty H x) [] s hs s.data.toList [] 0 n rfl (by decide) (by simp; omega)
  simp only [List.length_nil, Int.natCast_zero, Nat.zero_add] at key
  rw [key]
  rfl
theorem implStripeF (n : Nat) (hn : 1048576 < n) (ty : Nat) (s : ByteArray) (hs : s.size ≤ 1048576) : tree E0 (n + 1) ty 73 [.sc (.string s)] = some (.sc (.int .i64 (vStripe s))) := by
  rw [tree_def, f73_eq, f73]
  have key := implStripe_loop n (fun x H => ownTree ti0 E0.tp ty H x) [] s hs s.data.toList [] 0 n rfl (by simp) (by simp; omega)
  simp only [List.length_nil, Int.natCast_zero, Nat.zero_add] at key
  rw [key]
  rfl
def lastOf (op : Int) : Int := if op = 1 then 5 else if op = 2 then 3 else if op = 3 then 4 else if op = 4 then 3 else if op = 5 then 1 else if op = 6 then 3 else if op = 7 then 1 else 0
def vFirstTo (t : TaskV) : ByteArray := match t.fTo with
  | x :: _ => x.fClient
  | [] => ⟨#[]⟩
def vHoldsStripe (t : TaskV) : Int := if vIn t.fPc 1 (lastOf t.fOp) then vStripe t.fClient else if ((t.fOp == 2 && t.fPc == 5) || (t.fOp == 6 && t.fPc == 10)) && decide (0 < t.fTo.length) then vStripe (vFirstTo t) else -1
theorem to_wt (l : List SubV) (h : wtL wtSub l ≤ 1048576) (x : SubV) (t : List SubV) (e : l = x :: t) : x.fClient.size ≤ 1048576 := by
  subst e
  simp only [wtL, wtSub] at h
  omega
theorem sel_ints (tab : List Int) (i : Int) (H : Heap) (id : Nat) (K : AV → Option AV) (hi : H[id]? = some ⟨tab.map fun z => AV.sc (.int .i64 z), true, true⟩) (h0 : 0 ≤ i) (h1 : i < tab.length) : (pIadr 1 (.sl id 0 tab.length 1) (.sc (.int .i64 i)) fun t => pLoad false 1 t H fun x => K x) = K (.sc (.int .i64 (tab[i.toNat]?.getD 0))) := by
  obtain ⟨m, rfl⟩ : ∃ m : Nat, i = m := ⟨i.toNat, by omega⟩
  have hm : m < tab.length := by omega
  rw [iadr_sl 1 tab.length id 0 m _ hm]
  refine w_ld hi (by simpa using hm) (c := .sc (.int .i64 (tab[m]))) ?_ ?_
  · refine one_of ?_
    simp [hm]
  · simp [hm]
theorem sel_last (op : Int) (H : Heap) (id : Nat) (K : AV → Option AV) (hi : H[id]? = some ⟨[.sc (.int .i64 0), .sc (.int .i64 5), .sc (.int .i64 3), .sc (.int .i64 4), .sc (.int .i64 3), .sc (.int .i64 1), .sc (.int .i64 3), .sc (.int .i64 1)], true, true⟩) (h : vIn op 1 7 = true) : (pIadr 1 (.sl id 0 8 1) (.sc (.int .i64 op)) fun t => pLoad false 1 t H fun x => K x) = K (.sc (.int .i64 (lastOf op))) := by
  have hb : 1 ≤ op ∧ op ≤ 7 := by simpa [vIn] using h
  have := sel_ints [0, 5, 3, 4, 3, 1, 3, 1] op H id K hi (by omega) (by simp; omega)
  have hc : op = 1 ∨ op = 2 ∨ op = 3 ∨ op = 4 ∨ op = 5 ∨ op = 6 ∨ op = 7 := by omega
  rcases hc with rfl | rfl | rfl | rfl | rfl | rfl | rfl <;> exact this
theorem vIn_out {x : Int} (h : vIn x 1 7 = false) (p : Int) : vIn p 1 (lastOf x) = false ∧ (x == 2) = false ∧ (x == 6) = false := by
  have hb : ¬ (1 ≤ x ∧ x ≤ 7) := by simpa [vIn] using h
  have hl : lastOf x = 0 := by
    unfold lastOf
    rw [if_neg (by omega), if_neg (by omega), if_neg (by omega), if_neg (by omega), if_neg (by omega), if_neg (by omega), if_neg (by omega)]
  refine ⟨?_, by simp; omega, by simp; omega⟩
  rw [hl, vIn]
  by_cases h1 : 1 ≤ p
  · simp [h1]; omega
  · simp [h1]
theorem specF_HoldsStripe (n : Nat) (hn : 1048576 < n) (t : TaskV) (k0 : okTask t) (b0 : wtTask t ≤ 1048576) : tree E0 (n + 3) 3 31 [.agg (encTask t)] = some (.sc (.int .i64 (vHoldsStripe t))) := by
  rw [tree_def, f31_eq, f31]
  simp only [PR_box, PR_new, PR_fadr, PR_load, PR_store, PR_bin, PR_binB, PR_un, PR_cond, PR_guard, PR_pick, PR_len, PR_lenS, PR_iadr, PR_idx, PR_slice, PR_sliceS, PR_newSl, PR_fill, PR_make, PR_app, PR_cvI, PR_cvBS]
  have bc : t.fClient.size ≤ 1048576 := by unfold wtTask at b0; omega
  have bt := to_wt t.fTo (by unfold wtTask at b0; omega)
  refine w_box (flTask _) fun iB1 eB1 B1 => ?_
  refine w_fill (cs := [.sc (.int .i64 0), .sc (.int .i64 5), .sc (.int .i64 3), .sc (.int .i64 4), .sc (.int .i64 3), .sc (.int .i64 1), .sc (.int .i64 3), .sc (.int .i64 1)]) rfl ?_
  refine w_newSl fun iB2 eB2 B2 => ?_
  replace B1 := blk_grow B1 [⟨[.sc (.int .i64 0), .sc (.int .i64 5), .sc (.int .i64 3), .sc (.int .i64 4), .sc (.int .i64 3), .sc (.int .i64 1), .sc (.int .i64 3), .sc (.int .i64 1)], true, true⟩]
  refine w_fadr ?_
  refine w_ld (c := .sc (.int .i64 t.fOp)) B1 (Nat.le_of_ble_eq_true rfl) rfl ?_
  refine lw_sc rfl (vcons (Vw_sc _ _) (vcons (Vw_sc _ _) (vcons (Vw_sc _ _) vnil))) (l1InF (n + 1) _ t.fOp 1 7) ?_
  refine w_not ?_
  refine w_split ((vIn t.fOp 1 7)) (fun h3 => ?_) (fun h3 => ?_)
  · refine w_cF (nF h3) ?_
    refine w_fadr ?_
    refine w_ld (c := .sc (.int .i64 t.fPc)) B1 (Nat.le_of_ble_eq_true rfl) rfl ?_
    refine w_fadr ?_
    refine w_ld (c := .sc (.int .i64 t.fOp)) B1 (Nat.le_of_ble_eq_true rfl) rfl ?_
    refine (sel_last _ _ _ _ B2 h3).trans ?_
    refine lw_sc rfl (vcons (Vw_sc _ _) (vcons (Vw_sc _ _) (vcons (Vw_sc _ _) vnil))) (l1InF (n + 1) _ t.fPc 1 (lastOf t.fOp)) ?_
    refine w_split ((vIn t.fPc 1 (lastOf t.fOp))) (fun h4 => ?_) (fun h4 => ?_)
    · refine w_cT h4 ?_
      refine w_fadr ?_
      refine w_ld (c := .sc (.string t.fClient)) B1 (Nat.le_of_ble_eq_true rfl) rfl ?_
      refine lw_sc rfl (vcons (Vw_sc _ _) vnil) (specStripeF (n + 1) (by omega) _ t.fClient bc) ?_
      exact w_endI (by first | (have hx : vIn t.fOp 1 7 = false := (by assumption); obtain ⟨e1, e2, e3⟩ := vIn_out hx t.fPc; simp [vHoldsStripe, e1, e2, e3]; done) | (simp_all [vHoldsStripe, lastOf, vFirstTo]; done) | (simp_all [vHoldsStripe, lastOf, vFirstTo, vIn]; omega))
    · refine w_cF h4 ?_
      refine w_fadr ?_
      refine w_ld (c := .sc (.int .i64 t.fOp)) B1 (Nat.le_of_ble_eq_true rfl) rfl ?_
      refine w_bin (v := .sc (.bool (t.fOp == 2))) (fun k => rfl) ?_
      refine w_split ((t.fOp == 2)) (fun h5 => ?_) (fun h5 => ?_)
      · refine w_gT h5 ?_
        refine w_fadr ?_
        refine w_gT h5 ?_
        refine w_ld (c := .sc (.int .i64 t.fPc)) B1 (Nat.le_of_ble_eq_true rfl) rfl ?_
        refine w_gT h5 ?_
        refine w_bin (v := .sc (.bool (t.fPc == 5))) (fun k => rfl) ?_
        refine w_pT h5 ?_
        refine w_split ((t.fPc == 5)) (fun h6 => ?_) (fun h6 => ?_)
        · refine w_hF h6 ?_
          refine w_hF h6 ?_
          refine w_hF h6 ?_
          refine w_hF h6 ?_
          refine w_u ?_
          refine w_u ?_
          refine w_u ?_
          refine w_hF h6 ?_
          refine w_pT h6 ?_
          refine w_gT rfl ?_
          refine w_fadr ?_
          refine w_gT rfl ?_
          refine w_ld (c := rowsC encSub t.fTo) B1 (Nat.le_of_ble_eq_true rfl) rfl ?_
          refine w_gT rfl ?_
          refine w_len ?_
          refine w_gT rfl ?_
          refine w_bin (v := .sc (.bool (decide ((t.fTo.length : Int) > 0)))) (fun k => rfl) ?_
          refine w_pT rfl ?_
          refine w_split ((decide ((t.fTo.length : Int) > 0))) (fun h7 => ?_) (fun h7 => ?_)
          · refine w_cT h7 ?_
            refine w_fadr ?_
            refine w_ld (c := rowsC encSub t.fTo) B1 (Nat.le_of_ble_eq_true rfl) rfl ?_
            refine w_iadr0 lenSub (by decide) (by first | (simp_all; done) | (simp at *; omega)) fun x8 tx8 E8 => ?_
            refine w_fadr_rp ?_
            refine w_ld_rp (c := .sc (.string x8.fClient)) rfl ?_
            refine lw_sc rfl (vcons (Vw_sc _ _) vnil) (specStripeF (n + 1) (by omega) _ x8.fClient (bt _ _ (by assumption))) ?_
            exact w_endI (by first | (have hx : vIn t.fOp 1 7 = false := (by assumption); obtain ⟨e1, e2, e3⟩ := vIn_out hx t.fPc; simp [vHoldsStripe, e1, e2, e3]; done) | (simp_all [vHoldsStripe, lastOf, vFirstTo]; done) | (simp_all [vHoldsStripe, lastOf, vFirstTo, vIn]; omega))
          · refine w_cF h7 ?_
            exact w_endI (by first | (have hx : vIn t.fOp 1 7 = false := (by assumption); obtain ⟨e1, e2, e3⟩ := vIn_out hx t.fPc; simp [vHoldsStripe, e1, e2, e3]; done) | (simp_all [vHoldsStripe, lastOf, vFirstTo]; done) | (simp_all [vHoldsStripe, lastOf, vFirstTo, vIn]; omega))
        · refine w_hT h6 ?_
          refine w_fadr ?_
          refine w_hT h6 ?_
          refine w_ld (c := .sc (.int .i64 t.fOp)) B1 (Nat.le_of_ble_eq_true rfl) rfl ?_
          refine w_hT h6 ?_
          refine w_bin (v := .sc (.bool (t.fOp == 6))) (fun k => rfl) ?_
          refine w_hT h6 ?_
          refine w_split ((t.fOp == 6)) (fun h9 => ?_) (fun h9 => ?_)
          · refine w_gT h9 ?_
            refine w_fadr ?_
            refine w_gT h9 ?_
            refine w_ld (c := .sc (.int .i64 t.fPc)) B1 (Nat.le_of_ble_eq_true rfl) rfl ?_
            refine w_gT h9 ?_
            refine w_bin (v := .sc (.bool (t.fPc == 10))) (fun k => rfl) ?_
            refine w_hT h6 ?_
            refine w_pT h9 ?_
            refine w_pF h6 ?_
            refine w_split ((t.fPc == 10)) (fun h10 => ?_) (fun h10 => ?_)
            · refine w_gT h10 ?_
              refine w_fadr ?_
              refine w_gT h10 ?_
              refine w_ld (c := rowsC encSub t.fTo) B1 (Nat.le_of_ble_eq_true rfl) rfl ?_
              refine w_gT h10 ?_
              refine w_len ?_
              refine w_gT h10 ?_
              refine w_bin (v := .sc (.bool (decide ((t.fTo.length : Int) > 0)))) (fun k => rfl) ?_
              refine w_pT h10 ?_
              refine w_split ((decide ((t.fTo.length : Int) > 0))) (fun h11 => ?_) (fun h11 => ?_)
              · refine w_cT h11 ?_
                refine w_fadr ?_
                refine w_ld (c := rowsC encSub t.fTo) B1 (Nat.le_of_ble_eq_true rfl) rfl ?_
                refine w_iadr0 lenSub (by decide) (by first | (simp_all; done) | (simp at *; omega)) fun x12 tx12 E12 => ?_
                refine w_fadr_rp ?_
                refine w_ld_rp (c := .sc (.string x12.fClient)) rfl ?_
                refine lw_sc rfl (vcons (Vw_sc _ _) vnil) (specStripeF (n + 1) (by omega) _ x12.fClient (bt _ _ (by assumption))) ?_
                exact w_endI (by first | (have hx : vIn t.fOp 1 7 = false := (by assumption); obtain ⟨e1, e2, e3⟩ := vIn_out hx t.fPc; simp [vHoldsStripe, e1, e2, e3]; done) | (simp_all [vHoldsStripe, lastOf, vFirstTo]; done) | (simp_all [vHoldsStripe, lastOf, vFirstTo, vIn]; omega))
              · refine w_cF h11 ?_
                exact w_endI (by first | (have hx : vIn t.fOp 1 7 = false := (by assumption); obtain ⟨e1, e2, e3⟩ := vIn_out hx t.fPc; simp [vHoldsStripe, e1, e2, e3]; done) | (simp_all [vHoldsStripe, lastOf, vFirstTo]; done) | (simp_all [vHoldsStripe, lastOf, vFirstTo, vIn]; omega))
            · refine w_gF h10 ?_
              refine w_gF h10 ?_
              refine w_gF h10 ?_
              refine w_gF h10 ?_
              refine w_pF h10 ?_
              refine w_cF rfl ?_
              exact w_endI (by first | (have hx : vIn t.fOp 1 7 = false := (by assumption); obtain ⟨e1, e2, e3⟩ := vIn_out hx t.fPc; simp [vHoldsStripe, e1, e2, e3]; done) | (simp_all [vHoldsStripe, lastOf, vFirstTo]; done) | (simp_all [vHoldsStripe, lastOf, vFirstTo, vIn]; omega))
          · refine w_gF h9 ?_
            refine w_gF h9 ?_
            refine w_gF h9 ?_
            refine w_hT h6 ?_
            refine w_pF h9 ?_
            refine w_pF h6 ?_
            refine w_gF rfl ?_
            refine w_gF rfl ?_
            refine w_gF rfl ?_
            refine w_gF rfl ?_
            refine w_pF rfl ?_
            refine w_cF rfl ?_
            exact w_endI (by first | (have hx : vIn t.fOp 1 7 = false := (by assumption); obtain ⟨e1, e2, e3⟩ := vIn_out hx t.fPc; simp [vHoldsStripe, e1, e2, e3]; done) | (simp_all [vHoldsStripe, lastOf, vFirstTo]; done) | (simp_all [vHoldsStripe, lastOf, vFirstTo, vIn]; omega))
      · refine w_gF h5 ?_
        refine w_gF h5 ?_
        refine w_gF h5 ?_
        refine w_pF h5 ?_
        refine w_hT rfl ?_
        refine w_fadr ?_
        refine w_hT rfl ?_
        refine w_ld (c := .sc (.int .i64 t.fOp)) B1 (Nat.le_of_ble_eq_true rfl) rfl ?_
        refine w_hT rfl ?_
        refine w_bin (v := .sc (.bool (t.fOp == 6))) (fun k => rfl) ?_
        refine w_hT rfl ?_
        refine w_split ((t.fOp == 6)) (fun h13 => ?_) (fun h13 => ?_)
        · refine w_gT h13 ?_
          refine w_fadr ?_
          refine w_gT h13 ?_
          refine w_ld (c := .sc (.int .i64 t.fPc)) B1 (Nat.le_of_ble_eq_true rfl) rfl ?_
          refine w_gT h13 ?_
          refine w_bin (v := .sc (.bool (t.fPc == 10))) (fun k => rfl) ?_
          refine w_hT rfl ?_
          refine w_pT h13 ?_
          refine w_pF rfl ?_
          refine w_split ((t.fPc == 10)) (fun h14 => ?_) (fun h14 => ?_)
          · refine w_gT h14 ?_
            refine w_fadr ?_
            refine w_gT h14 ?_
            refine w_ld (c := rowsC encSub t.fTo) B1 (Nat.le_of_ble_eq_true rfl) rfl ?_
            refine w_gT h14 ?_
            refine w_len ?_
            refine w_gT h14 ?_
            refine w_bin (v := .sc (.bool (decide ((t.fTo.length : Int) > 0)))) (fun k => rfl) ?_
            refine w_pT h14 ?_
            refine w_split ((decide ((t.fTo.length : Int) > 0))) (fun h15 => ?_) (fun h15 => ?_)
            · refine w_cT h15 ?_
              refine w_fadr ?_
              refine w_ld (c := rowsC encSub t.fTo) B1 (Nat.le_of_ble_eq_true rfl) rfl ?_
              refine w_iadr0 lenSub (by decide) (by first | (simp_all; done) | (simp at *; omega)) fun x16 tx16 E16 => ?_
              refine w_fadr_rp ?_
              refine w_ld_rp (c := .sc (.string x16.fClient)) rfl ?_
              refine lw_sc rfl (vcons (Vw_sc _ _) vnil) (specStripeF (n + 1) (by omega) _ x16.fClient (bt _ _ (by assumption))) ?_
              exact w_endI (by first | (have hx : vIn t.fOp 1 7 = false := (by assumption); obtain ⟨e1, e2, e3⟩ := vIn_out hx t.fPc; simp [vHoldsStripe, e1, e2, e3]; done) | (simp_all [vHoldsStripe, lastOf, vFirstTo]; done) | (simp_all [vHoldsStripe, lastOf, vFirstTo, vIn]; omega))
            · refine w_cF h15 ?_
              exact w_endI (by first | (have hx : vIn t.fOp 1 7 = false := (by assumption); obtain ⟨e1, e2, e3⟩ := vIn_out hx t.fPc; simp [vHoldsStripe, e1, e2, e3]; done) | (simp_all [vHoldsStripe, lastOf, vFirstTo]; done) | (simp_all [vHoldsStripe, lastOf, vFirstTo, vIn]; omega))
          · refine w_gF h14 ?_
            refine w_gF h14 ?_
            refine w_gF h14 ?_
            refine w_gF h14 ?_
            refine w_pF h14 ?_
            refine w_cF rfl ?_
            exact w_endI (by first | (have hx : vIn t.fOp 1 7 = false := (by assumption); obtain ⟨e1, e2, e3⟩ := vIn_out hx t.fPc; simp [vHoldsStripe, e1, e2, e3]; done) | (simp_all [vHoldsStripe, lastOf, vFirstTo]; done) | (simp_all [vHoldsStripe, lastOf, vFirstTo, vIn]; omega))
        · refine w_gF h13 ?_
          refine w_gF h13 ?_
          refine w_gF h13 ?_
          refine w_hT rfl ?_
          refine w_pF h13 ?_
          refine w_pF rfl ?_
          refine w_gF rfl ?_
          refine w_gF rfl ?_
          refine w_gF rfl ?_
          refine w_gF rfl ?_
          refine w_pF rfl ?_
          refine w_cF rfl ?_
          exact w_endI (by first | (have hx : vIn t.fOp 1 7 = false := (by assumption); obtain ⟨e1, e2, e3⟩ := vIn_out hx t.fPc; simp [vHoldsStripe, e1, e2, e3]; done) | (simp_all [vHoldsStripe, lastOf, vFirstTo]; done) | (simp_all [vHoldsStripe, lastOf, vFirstTo, vIn]; omega))
  · refine w_cT (nT h3) ?_
    exact w_endI (by first | (have hx : vIn t.fOp 1 7 = false := (by assumption); obtain ⟨e1, e2, e3⟩ := vIn_out hx t.fPc; simp [vHoldsStripe, e1, e2, e3]; done) | (simp_all [vHoldsStripe, lastOf, vFirstTo]; done) | (simp_all [vHoldsStripe, lastOf, vFirstTo, vIn]; omega))
theorem implF_HoldsStripe (n : Nat) (hn : 1048576 < n) (t : TaskV) (k0 : okTask t) (b0 : wtTask t ≤ 1048576) : tree E0 (n + 3) 3 32 [.agg (encTask t)] = some (.sc (.int .i64 (vHoldsStripe t))) := by
  rw [tree_def, f32_eq, f32]
  simp only [PR_box, PR_new, PR_fadr, PR_load, PR_store, PR_bin, PR_binB, PR_un, PR_cond, PR_guard, PR_pick, PR_len, PR_lenS, PR_iadr, PR_idx, PR_slice, PR_sliceS, PR_newSl, PR_fill, PR_make, PR_app, PR_cvI, PR_cvBS]
  have bc : t.fClient.size ≤ 1048576 := by unfold wtTask at b0; omega
  have bt := to_wt t.fTo (by unfold wtTask at b0; omega)
  refine w_box (flTask _) fun iB1 eB1 B1 => ?_
  refine w_fadr ?_
  refine w_ld (c := .sc (.int .i64 t.fOp)) B1 (Nat.le_of_ble_eq_true rfl) rfl ?_
  refine w_bin (v := .sc (.bool (t.fOp == 1))) (fun k => rfl) ?_
  refine w_split ((t.fOp == 1)) (fun h2 => ?_) (fun h2 => ?_)
  · refine w_cT h2 ?_
    refine w_fadr ?_
    refine w_ld (c := .sc (.int .i64 t.fPc)) B1 (Nat.le_of_ble_eq_true rfl) rfl ?_
    refine lw_sc rfl (vcons (Vw_sc _ _) (vcons (Vw_sc _ _) (vcons (Vw_sc _ _) vnil))) (withinF (n + 1) _ t.fPc 1 5) ?_
    refine w_split ((vIn t.fPc 1 5)) (fun h3 => ?_) (fun h3 => ?_)
    · refine w_cT h3 ?_
      refine w_fadr ?_
      refine w_ld (c := .sc (.string t.fClient)) B1 (Nat.le_of_ble_eq_true rfl) rfl ?_
      refine lw_sc rfl (vcons (Vw_sc _ _) vnil) (implStripeF (n + 1) (by omega) _ t.fClient bc) ?_
      exact w_endI (by first | (have hx : vIn t.fOp 1 7 = false := (by assumption); obtain ⟨e1, e2, e3⟩ := vIn_out hx t.fPc; simp [vHoldsStripe, e1, e2, e3]; done) | (simp_all [vHoldsStripe, lastOf, vFirstTo]; done) | (simp_all [vHoldsStripe, lastOf, vFirstTo, vIn]; omega))
    · refine w_cF h3 ?_
      refine w_fadr ?_
      refine w_ld (c := .sc (.int .i64 t.fOp)) B1 (Nat.le_of_ble_eq_true rfl) rfl ?_
      refine w_bin (v := .sc (.bool (t.fOp == 2))) (fun k => rfl) ?_
      refine w_split ((t.fOp == 2)) (fun h4 => ?_) (fun h4 => ?_)
      · refine w_gT h4 ?_
        refine w_fadr ?_
        refine w_gT h4 ?_
        refine w_ld (c := .sc (.int .i64 t.fPc)) B1 (Nat.le_of_ble_eq_true rfl) rfl ?_
        refine w_gT h4 ?_
        refine w_bin (v := .sc (.bool (t.fPc == 5))) (fun k => rfl) ?_
        refine w_pT h4 ?_
        refine w_split ((t.fPc == 5)) (fun h5 => ?_) (fun h5 => ?_)
        · refine w_hF h5 ?_
          refine w_hF h5 ?_
          refine w_hF h5 ?_
          refine w_hF h5 ?_
          refine w_u ?_
          refine w_u ?_
          refine w_u ?_
          refine w_hF h5 ?_
          refine w_pT h5 ?_
          refine w_gT rfl ?_
          refine w_fadr ?_
          refine w_gT rfl ?_
          refine w_ld (c := rowsC encSub t.fTo) B1 (Nat.le_of_ble_eq_true rfl) rfl ?_
          refine w_gT rfl ?_
          refine w_len ?_
          refine w_gT rfl ?_
          refine w_bin (v := .sc (.bool (decide ((t.fTo.length : Int) > 0)))) (fun k => rfl) ?_
          refine w_pT rfl ?_
          refine w_split ((decide ((t.fTo.length : Int) > 0))) (fun h6 => ?_) (fun h6 => ?_)
          · refine w_cT h6 ?_
            refine w_fadr ?_
            refine w_ld (c := rowsC encSub t.fTo) B1 (Nat.le_of_ble_eq_true rfl) rfl ?_
            refine w_iadr0 lenSub (by decide) (by first | (simp_all; done) | (simp at *; omega)) fun x7 tx7 E7 => ?_
            refine w_fadr_rp ?_
            refine w_ld_rp (c := .sc (.string x7.fClient)) rfl ?_
            refine lw_sc rfl (vcons (Vw_sc _ _) vnil) (implStripeF (n + 1) (by omega) _ x7.fClient (bt _ _ (by assumption))) ?_
            exact w_endI (by first | (have hx : vIn t.fOp 1 7 = false := (by assumption); obtain ⟨e1, e2, e3⟩ := vIn_out hx t.fPc; simp [vHoldsStripe, e1, e2, e3]; done) | (simp_all [vHoldsStripe, lastOf, vFirstTo]; done) | (simp_all [vHoldsStripe, lastOf, vFirstTo, vIn]; omega))
          · refine w_cF h6 ?_
            exact w_endI (by first | (have hx : vIn t.fOp 1 7 = false := (by assumption); obtain ⟨e1, e2, e3⟩ := vIn_out hx t.fPc; simp [vHoldsStripe, e1, e2, e3]; done) | (simp_all [vHoldsStripe, lastOf, vFirstTo]; done) | (simp_all [vHoldsStripe, lastOf, vFirstTo, vIn]; omega))
        · refine w_hT h5 ?_
          refine w_fadr ?_
          refine w_hT h5 ?_
          refine w_ld (c := .sc (.int .i64 t.fOp)) B1 (Nat.le_of_ble_eq_true rfl) rfl ?_
          refine w_hT h5 ?_
          refine w_bin (v := .sc (.bool (t.fOp == 6))) (fun k => rfl) ?_
          refine w_hT h5 ?_
          refine w_split ((t.fOp == 6)) (fun h8 => ?_) (fun h8 => ?_)
          · refine w_gT h8 ?_
            refine w_fadr ?_
            refine w_gT h8 ?_
            refine w_ld (c := .sc (.int .i64 t.fPc)) B1 (Nat.le_of_ble_eq_true rfl) rfl ?_
            refine w_gT h8 ?_
            refine w_bin (v := .sc (.bool (t.fPc == 10))) (fun k => rfl) ?_
            refine w_hT h5 ?_
            refine w_pT h8 ?_
            refine w_pF h5 ?_
            refine w_split ((t.fPc == 10)) (fun h9 => ?_) (fun h9 => ?_)
            · refine w_gT h9 ?_
              refine w_fadr ?_
              refine w_gT h9 ?_
              refine w_ld (c := rowsC encSub t.fTo) B1 (Nat.le_of_ble_eq_true rfl) rfl ?_
              refine w_gT h9 ?_
              refine w_len ?_
              refine w_gT h9 ?_
              refine w_bin (v := .sc (.bool (decide ((t.fTo.length : Int) > 0)))) (fun k => rfl) ?_
              refine w_pT h9 ?_
              refine w_split ((decide ((t.fTo.length : Int) > 0))) (fun h10 => ?_) (fun h10 => ?_)
              · refine w_cT h10 ?_
                refine w_fadr ?_
                refine w_ld (c := rowsC encSub t.fTo) B1 (Nat.le_of_ble_eq_true rfl) rfl ?_
                refine w_iadr0 lenSub (by decide) (by first | (simp_all; done) | (simp at *; omega)) fun x11 tx11 E11 => ?_
                refine w_fadr_rp ?_
                refine w_ld_rp (c := .sc (.string x11.fClient)) rfl ?_
                refine lw_sc rfl (vcons (Vw_sc _ _) vnil) (implStripeF (n + 1) (by omega) _ x11.fClient (bt _ _ (by assumption))) ?_
                exact w_endI (by first | (have hx : vIn t.fOp 1 7 = false := (by assumption); obtain ⟨e1, e2, e3⟩ := vIn_out hx t.fPc; simp [vHoldsStripe, e1, e2, e3]; done) | (simp_all [vHoldsStripe, lastOf, vFirstTo]; done) | (simp_all [vHoldsStripe, lastOf, vFirstTo, vIn]; omega))
              · refine w_cF h10 ?_
                exact w_endI (by first | (have hx : vIn t.fOp 1 7 = false := (by assumption); obtain ⟨e1, e2, e3⟩ := vIn_out hx t.fPc; simp [vHoldsStripe, e1, e2, e3]; done) | (simp_all [vHoldsStripe, lastOf, vFirstTo]; done) | (simp_all [vHoldsStripe, lastOf, vFirstTo, vIn]; omega))
            · refine w_gF h9 ?_
              refine w_gF h9 ?_
              refine w_gF h9 ?_
              refine w_gF h9 ?_
              refine w_pF h9 ?_
              refine w_cF rfl ?_
              exact w_endI (by first | (have hx : vIn t.fOp 1 7 = false := (by assumption); obtain ⟨e1, e2, e3⟩ := vIn_out hx t.fPc; simp [vHoldsStripe, e1, e2, e3]; done) | (simp_all [vHoldsStripe, lastOf, vFirstTo]; done) | (simp_all [vHoldsStripe, lastOf, vFirstTo, vIn]; omega))
          · refine w_gF h8 ?_
            refine w_gF h8 ?_
            refine w_gF h8 ?_
            refine w_hT h5 ?_
            refine w_pF h8 ?_
            refine w_pF h5 ?_
            refine w_gF rfl ?_
            refine w_gF rfl ?_
            refine w_gF rfl ?_
            refine w_gF rfl ?_
            refine w_pF rfl ?_
            refine w_cF rfl ?_
            exact w_endI (by first | (have hx : vIn t.fOp 1 7 = false := (by assumption); obtain ⟨e1, e2, e3⟩ := vIn_out hx t.fPc; simp [vHoldsStripe, e1, e2, e3]; done) | (simp_all [vHoldsStripe, lastOf, vFirstTo]; done) | (simp_all [vHoldsStripe, lastOf, vFirstTo, vIn]; omega))
      · refine w_gF h4 ?_
        refine w_gF h4 ?_
        refine w_gF h4 ?_
        refine w_pF h4 ?_
        refine w_hT rfl ?_
        refine w_fadr ?_
        refine w_hT rfl ?_
        refine w_ld (c := .sc (.int .i64 t.fOp)) B1 (Nat.le_of_ble_eq_true rfl) rfl ?_
        refine w_hT rfl ?_
        refine w_bin (v := .sc (.bool (t.fOp == 6))) (fun k => rfl) ?_
        refine w_hT rfl ?_
        refine w_split ((t.fOp == 6)) (fun h12 => ?_) (fun h12 => ?_)
        · refine w_gT h12 ?_
          refine w_fadr ?_
          refine w_gT h12 ?_
          refine w_ld (c := .sc (.int .i64 t.fPc)) B1 (Nat.le_of_ble_eq_true rfl) rfl ?_
          refine w_gT h12 ?_
          refine w_bin (v := .sc (.bool (t.fPc == 10))) (fun k => rfl) ?_
          refine w_hT rfl ?_
          refine w_pT h12 ?_
          refine w_pF rfl ?_
          refine w_split ((t.fPc == 10)) (fun h13 => ?_) (fun h13 => ?_)
          · refine w_gT h13 ?_
            refine w_fadr ?_
            refine w_gT h13 ?_
            refine w_ld (c := rowsC encSub t.fTo) B1 (Nat.le_of_ble_eq_true rfl) rfl ?_
            refine w_gT h13 ?_
            refine w_len ?_
            refine w_gT h13 ?_
            refine w_bin (v := .sc (.bool (decide ((t.fTo.length : Int) > 0)))) (fun k => rfl) ?_
            refine w_pT h13 ?_
            refine w_split ((decide ((t.fTo.length : Int) > 0))) (fun h14 => ?_) (fun h14 => ?_)
            · refine w_cT h14 ?_
              refine w_fadr ?_
              refine w_ld (c := rowsC encSub t.fTo) B1 (Nat.le_of_ble_eq_true rfl) rfl ?_
              refine w_iadr0 lenSub (by decide) (by first | (simp_all; done) | (simp at *; omega)) fun x15 tx15 E15 => ?_
              refine w_fadr_rp ?_
              refine w_ld_rp (c := .sc (.string x15.fClient)) rfl ?_
              refine lw_sc rfl (vcons (Vw_sc _ _) vnil) (implStripeF (n + 1) (by omega) _ x15.fClient (bt _ _ (by assumption))) ?_
              exact w_endI (by first | (have hx : vIn t.fOp 1 7 = false := (by assumption); obtain ⟨e1, e2, e3⟩ := vIn_out hx t.fPc; simp [vHoldsStripe, e1, e2, e3]; done) | (simp_all [vHoldsStripe, lastOf, vFirstTo]; done) | (simp_all [vHoldsStripe, lastOf, vFirstTo, vIn]; omega))
            · refine w_cF h14 ?_
              exact w_endI (by first | (have hx : vIn t.fOp 1 7 = false := (by assumption); obtain ⟨e1, e2, e3⟩ := vIn_out hx t.fPc; simp [vHoldsStripe, e1, e2, e3]; done) | (simp_all [vHoldsStripe, lastOf, vFirstTo]; done) | (simp_all [vHoldsStripe, lastOf, vFirstTo, vIn]; omega))
          · refine w_gF h13 ?_
            refine w_gF h13 ?_
            refine w_gF h13 ?_
            refine w_gF h13 ?_
            refine w_pF h13 ?_
            refine w_cF rfl ?_
            exact w_endI (by first | (have hx : vIn t.fOp 1 7 = false := (by assumption); obtain ⟨e1, e2, e3⟩ := vIn_out hx t.fPc; simp [vHoldsStripe, e1, e2, e3]; done) | (simp_all [vHoldsStripe, lastOf, vFirstTo]; done) | (simp_all [vHoldsStripe, lastOf, vFirstTo, vIn]; omega))
        · refine w_gF h12 ?_
          refine w_gF h12 ?_
          refine w_gF h12 ?_
          refine w_hT rfl ?_
          refine w_pF h12 ?_
          refine w_pF rfl ?_
          refine w_gF rfl ?_
          refine w_gF rfl ?_
          refine w_gF rfl ?_
          refine w_gF rfl ?_
          refine w_pF rfl ?_
          refine w_cF rfl ?_
          exact w_endI (by first | (have hx : vIn t.fOp 1 7 = false := (by assumption); obtain ⟨e1, e2, e3⟩ := vIn_out hx t.fPc; simp [vHoldsStripe, e1, e2, e3]; done) | (simp_all [vHoldsStripe, lastOf, vFirstTo]; done) | (simp_all [vHoldsStripe, lastOf, vFirstTo, vIn]; omega))
  · refine w_cF h2 ?_
    refine w_bin (v := .sc (.bool (t.fOp == 3))) (fun k => rfl) ?_
    refine w_split ((t.fOp == 3)) (fun h16 => ?_) (fun h16 => ?_)
    · refine w_cT h16 ?_
      refine w_fadr ?_
      refine w_ld (c := .sc (.int .i64 t.fPc)) B1 (Nat.le_of_ble_eq_true rfl) rfl ?_
      refine lw_sc rfl (vcons (Vw_sc _ _) (vcons (Vw_sc _ _) (vcons (Vw_sc _ _) vnil))) (withinF (n + 1) _ t.fPc 1 4) ?_
      refine w_split ((vIn t.fPc 1 4)) (fun h17 => ?_) (fun h17 => ?_)
      · refine w_cT h17 ?_
        refine w_fadr ?_
        refine w_ld (c := .sc (.string t.fClient)) B1 (Nat.le_of_ble_eq_true rfl) rfl ?_
        refine lw_sc rfl (vcons (Vw_sc _ _) vnil) (implStripeF (n + 1) (by omega) _ t.fClient bc) ?_
        exact w_endI (by first | (have hx : vIn t.fOp 1 7 = false := (by assumption); obtain ⟨e1, e2, e3⟩ := vIn_out hx t.fPc; simp [vHoldsStripe, e1, e2, e3]; done) | (simp_all [vHoldsStripe, lastOf, vFirstTo]; done) | (simp_all [vHoldsStripe, lastOf, vFirstTo, vIn]; omega))
      · refine w_cF h17 ?_
        refine w_fadr ?_
        refine w_ld (c := .sc (.int .i64 t.fOp)) B1 (Nat.le_of_ble_eq_true rfl) rfl ?_
        refine w_bin (v := .sc (.bool (t.fOp == 2))) (fun k => rfl) ?_
        refine w_split ((t.fOp == 2)) (fun h18 => ?_) (fun h18 => ?_)
        · refine w_gT h18 ?_
          refine w_fadr ?_
          refine w_gT h18 ?_
          refine w_ld (c := .sc (.int .i64 t.fPc)) B1 (Nat.le_of_ble_eq_true rfl) rfl ?_
          refine w_gT h18 ?_
          refine w_bin (v := .sc (.bool (t.fPc == 5))) (fun k => rfl) ?_
          refine w_pT h18 ?_
          refine w_split ((t.fPc == 5)) (fun h19 => ?_) (fun h19 => ?_)
          · refine w_hF h19 ?_
            refine w_hF h19 ?_
            refine w_hF h19 ?_
            refine w_hF h19 ?_
            refine w_u ?_
            refine w_u ?_
            refine w_u ?_
            refine w_hF h19 ?_
            refine w_pT h19 ?_
            refine w_gT rfl ?_
            refine w_fadr ?_
            refine w_gT rfl ?_
            refine w_ld (c := rowsC encSub t.fTo) B1 (Nat.le_of_ble_eq_true rfl) rfl ?_
            refine w_gT rfl ?_
            refine w_len ?_
            refine w_gT rfl ?_
            refine w_bin (v := .sc (.bool (decide ((t.fTo.length : Int) > 0)))) (fun k => rfl) ?_
            refine w_pT rfl ?_
            refine w_split ((decide ((t.fTo.length : Int) > 0))) (fun h20 => ?_) (fun h20 => ?_)
            · refine w_cT h20 ?_
              refine w_fadr ?_
              refine w_ld (c := rowsC encSub t.fTo) B1 (Nat.le_of_ble_eq_true rfl) rfl ?_
              refine w_iadr0 lenSub (by decide) (by first | (simp_all; done) | (simp at *; omega)) fun x21 tx21 E21 => ?_
              refine w_fadr_rp ?_
              refine w_ld_rp (c := .sc (.string x21.fClient)) rfl ?_
              refine lw_sc rfl (vcons (Vw_sc _ _) vnil) (implStripeF (n + 1) (by omega) _ x21.fClient (bt _ _ (by assumption))) ?_
              exact w_endI (by first | (have hx : vIn t.fOp 1 7 = false := (by assumption); obtain ⟨e1, e2, e3⟩ := vIn_out hx t.fPc; simp [vHoldsStripe, e1, e2, e3]; done) | (simp_all [vHoldsStripe, lastOf, vFirstTo]; done) | (simp_all [vHoldsStripe, lastOf, vFirstTo, vIn]; omega))
            · refine w_cF h20 ?_
              exact w_endI (by first | (have hx : vIn t.fOp 1 7 = false := (by assumption); obtain ⟨e1, e2, e3⟩ := vIn_out hx t.fPc; simp [vHoldsStripe, e1, e2, e3]; done) | (simp_all [vHoldsStripe, lastOf, vFirstTo]; done) | (simp_all [vHoldsStripe, lastOf, vFirstTo, vIn]; omega))
          · refine w_hT h19 ?_
            refine w_fadr ?_
            refine w_hT h19 ?_
            refine w_ld (c := .sc (.int .i64 t.fOp)) B1 (Nat.le_of_ble_eq_true rfl) rfl ?_
            refine w_hT h19 ?_
            refine w_bin (v := .sc (.bool (t.fOp == 6))) (fun k => rfl) ?_
            refine w_hT h19 ?_
            refine w_split ((t.fOp == 6)) (fun h22 => ?_) (fun h22 => ?_)
            · refine w_gT h22 ?_
              refine w_fadr ?_
              refine w_gT h22 ?_
              refine w_ld (c := .sc (.int .i64 t.fPc)) B1 (Nat.le_of_ble_eq_true rfl) rfl ?_
              refine w_gT h22 ?_
              refine w_bin (v := .sc (.bool (t.fPc == 10))) (fun k => rfl) ?_
              refine w_hT h19 ?_
              refine w_pT h22 ?_
              refine w_pF h19 ?_
              refine w_split ((t.fPc == 10)) (fun h23 => ?_) (fun h23 => ?_)
              · refine w_gT h23 ?_
                refine w_fadr ?_
                refine w_gT h23 ?_
                refine w_ld (c := rowsC encSub t.fTo) B1 (Nat.le_of_ble_eq_true rfl) rfl ?_
                refine w_gT h23 ?_
                refine w_len ?_
                refine w_gT h23 ?_
                refine w_bin (v := .sc (.bool (decide ((t.fTo.length : Int) > 0)))) (fun k => rfl) ?_
                refine w_pT h23 ?_
                refine w_split ((decide ((t.fTo.length : Int) > 0))) (fun h24 => ?_) (fun h24 => ?_)
                · refine w_cT h24 ?_
                  refine w_fadr ?_
                  refine w_ld (c := rowsC encSub t.fTo) B1 (Nat.le_of_ble_eq_true rfl) rfl ?_
                  refine w_iadr0 lenSub (by decide) (by first | (simp_all; done) | (simp at *; omega)) fun x25 tx25 E25 => ?_
                  refine w_fadr_rp ?_
                  refine w_ld_rp (c := .sc (.string x25.fClient)) rfl ?_
                  refine lw_sc rfl (vcons (Vw_sc _ _) vnil) (implStripeF (n + 1) (by omega) _ x25.fClient (bt _ _ (by assumption))) ?_
                  exact w_endI (by first | (have hx : vIn t.fOp 1 7 = false := (by assumption); obtain ⟨e1, e2, e3⟩ := vIn_out hx t.fPc; simp [vHoldsStripe, e1, e2, e3]; done) | (simp_all [vHoldsStripe, lastOf, vFirstTo]; done) | (simp_all [vHoldsStripe, lastOf, vFirstTo, vIn]; omega))
                · refine w_cF h24 ?_
                  exact w_endI (by first | (have hx : vIn t.fOp 1 7 = false := (by assumption); obtain ⟨e1, e2, e3⟩ := vIn_out hx t.fPc; simp [vHoldsStripe, e1, e2, e3]; done) | (simp_all [vHoldsStripe, lastOf, vFirstTo]; done) | (simp_all [vHoldsStripe, lastOf, vFirstTo, vIn]; omega))
              · refine w_gF h23 ?_
                refine w_gF h23 ?_
                refine w_gF h23 ?_
                refine w_gF h23 ?_
                refine w_pF h23 ?_
                refine w_cF rfl ?_
                exact w_endI (by first | (have hx : vIn t.fOp 1 7 = false := (by assumption); obtain ⟨e1, e2, e3⟩ := vIn_out hx t.fPc; simp [vHoldsStripe, e1, e2, e3]; done) | (simp_all [vHoldsStripe, lastOf, vFirstTo]; done) | (simp_all [vHoldsStripe, lastOf, vFirstTo, vIn]; omega))
            · refine w_gF h22 ?_
              refine w_gF h22 ?_
              refine w_gF h22 ?_
              refine w_hT h19 ?_
              refine w_pF h22 ?_
              refine w_pF h19 ?_
              refine w_gF rfl ?_
              refine w_gF rfl ?_
              refine w_gF rfl ?_
              refine w_gF rfl ?_
              refine w_pF rfl ?_
              refine w_cF rfl ?_
              exact w_endI (by first | (have hx : vIn t.fOp 1 7 = false := (by assumption); obtain ⟨e1, e2, e3⟩ := vIn_out hx t.fPc; simp [vHoldsStripe, e1, e2, e3]; done) | (simp_all [vHoldsStripe, lastOf, vFirstTo]; done) | (simp_all [vHoldsStripe, lastOf, vFirstTo, vIn]; omega))
        · refine w_gF h18 ?_
          refine w_gF h18 ?_
          refine w_gF h18 ?_
          refine w_pF h18 ?_
          refine w_hT rfl ?_
          refine w_fadr ?_
          refine w_hT rfl ?_
          refine w_ld (c := .sc (.int .i64 t.fOp)) B1 (Nat.le_of_ble_eq_true rfl) rfl ?_
          refine w_hT rfl ?_
          refine w_bin (v := .sc (.bool (t.fOp == 6))) (fun k => rfl) ?_
          refine w_hT rfl ?_
          refine w_split ((t.fOp == 6)) (fun h26 => ?_) (fun h26 => ?_)
          · refine w_gT h26 ?_
            refine w_fadr ?_
            refine w_gT h26 ?_
            refine w_ld (c := .sc (.int .i64 t.fPc)) B1 (Nat.le_of_ble_eq_true rfl) rfl ?_
            refine w_gT h26 ?_
            refine w_bin (v := .sc (.bool (t.fPc == 10))) (fun k => rfl) ?_
            refine w_hT rfl ?_
            refine w_pT h26 ?_
            refine w_pF rfl ?_
            refine w_split ((t.fPc == 10)) (fun h27 => ?_) (fun h27 => ?_)
            · refine w_gT h27 ?_
              refine w_fadr ?_
              refine w_gT h27 ?_
              refine w_ld (c := rowsC encSub t.fTo) B1 (Nat.le_of_ble_eq_true rfl) rfl ?_
              refine w_gT h27 ?_
              refine w_len ?_
              refine w_gT h27 ?_
              refine w_bin (v := .sc (.bool (decide ((t.fTo.length : Int) > 0)))) (fun k => rfl) ?_
              refine w_pT h27 ?_
              refine w_split ((decide ((t.fTo.length : Int) > 0))) (fun h28 => ?_) (fun h28 => ?_)
              · refine w_cT h28 ?_
                refine w_fadr ?_
                refine w_ld (c := rowsC encSub t.fTo) B1 (Nat.le_of_ble_eq_true rfl) rfl ?_
                refine w_iadr0 lenSub (by decide) (by first | (simp_all; done) | (simp at *; omega)) fun x29 tx29 E29 => ?_
                refine w_fadr_rp ?_
                refine w_ld_rp (c := .sc (.string x29.fClient)) rfl ?_
                refine lw_sc rfl (vcons (Vw_sc _ _) vnil) (implStripeF (n + 1) (by omega) _ x29.fClient (bt _ _ (by assumption))) ?_
                exact w_endI (by first | (have hx : vIn t.fOp 1 7 = false := (by assumption); obtain ⟨e1, e2, e3⟩ := vIn_out hx t.fPc; simp [vHoldsStripe, e1, e2, e3]; done) | (simp_all [vHoldsStripe, lastOf, vFirstTo]; done) | (simp_all [vHoldsStripe, lastOf, vFirstTo, vIn]; omega))
              · refine w_cF h28 ?_
                exact w_endI (by first | (have hx : vIn t.fOp 1 7 = false := (by assumption); obtain ⟨e1, e2, e3⟩ := vIn_out hx t.fPc; simp [vHoldsStripe, e1, e2, e3]; done) | (simp_all [vHoldsStripe, lastOf, vFirstTo]; done) | (simp_all [vHoldsStripe, lastOf, vFirstTo, vIn]; omega))
            · refine w_gF h27 ?_
              refine w_gF h27 ?_
              refine w_gF h27 ?_
              refine w_gF h27 ?_
              refine w_pF h27 ?_
              refine w_cF rfl ?_
              exact w_endI (by first | (have hx : vIn t.fOp 1 7 = false := (by assumption); obtain ⟨e1, e2, e3⟩ := vIn_out hx t.fPc; simp [vHoldsStripe, e1, e2, e3]; done) | (simp_all [vHoldsStripe, lastOf, vFirstTo]; done) | (simp_all [vHoldsStripe, lastOf, vFirstTo, vIn]; omega))
          · refine w_gF h26 ?_
            refine w_gF h26 ?_
            refine w_gF h26 ?_
            refine w_hT rfl ?_
            refine w_pF h26 ?_
            refine w_pF rfl ?_
            refine w_gF rfl ?_
            refine w_gF rfl ?_
            refine w_gF rfl ?_
            refine w_gF rfl ?_
            refine w_pF rfl ?_
            refine w_cF rfl ?_
            exact w_endI (by first | (have hx : vIn t.fOp 1 7 = false := (by assumption); obtain ⟨e1, e2, e3⟩ := vIn_out hx t.fPc; simp [vHoldsStripe, e1, e2, e3]; done) | (simp_all [vHoldsStripe, lastOf, vFirstTo]; done) | (simp_all [vHoldsStripe, lastOf, vFirstTo, vIn]; omega))
    · refine w_cF h16 ?_
      refine w_bin (v := .sc (.bool (t.fOp == 2))) (fun k => rfl) ?_
      refine w_letJ ?_
      refine w_split ((t.fOp == 2)) (fun h30 => ?_) (fun h30 => ?_)
      · refine w_cT h30 ?_
        refine w_cT h30 ?_
        refine w_fadr ?_
        refine w_ld (c := .sc (.int .i64 t.fPc)) B1 (Nat.le_of_ble_eq_true rfl) rfl ?_
        refine lw_sc rfl (vcons (Vw_sc _ _) (vcons (Vw_sc _ _) (vcons (Vw_sc _ _) vnil))) (withinF (n + 1) _ t.fPc 1 3) ?_
        refine w_split ((vIn t.fPc 1 3)) (fun h31 => ?_) (fun h31 => ?_)
        · refine w_cT h31 ?_
          refine w_fadr ?_
          refine w_ld (c := .sc (.string t.fClient)) B1 (Nat.le_of_ble_eq_true rfl) rfl ?_
          refine lw_sc rfl (vcons (Vw_sc _ _) vnil) (implStripeF (n + 1) (by omega) _ t.fClient bc) ?_
          exact w_endI (by first | (have hx : vIn t.fOp 1 7 = false := (by assumption); obtain ⟨e1, e2, e3⟩ := vIn_out hx t.fPc; simp [vHoldsStripe, e1, e2, e3]; done) | (simp_all [vHoldsStripe, lastOf, vFirstTo]; done) | (simp_all [vHoldsStripe, lastOf, vFirstTo, vIn]; omega))
        · refine w_cF h31 ?_
          refine w_fadr ?_
          refine w_ld (c := .sc (.int .i64 t.fOp)) B1 (Nat.le_of_ble_eq_true rfl) rfl ?_
          refine w_bin (v := .sc (.bool (t.fOp == 2))) (fun k => rfl) ?_
          refine w_gT h30 ?_
          refine w_fadr ?_
          refine w_gT h30 ?_
          refine w_ld (c := .sc (.int .i64 t.fPc)) B1 (Nat.le_of_ble_eq_true rfl) rfl ?_
          refine w_gT h30 ?_
          refine w_bin (v := .sc (.bool (t.fPc == 5))) (fun k => rfl) ?_
          refine w_pT h30 ?_
          refine w_split ((t.fPc == 5)) (fun h32 => ?_) (fun h32 => ?_)
          · refine w_hF h32 ?_
            refine w_hF h32 ?_
            refine w_hF h32 ?_
            refine w_hF h32 ?_
            refine w_u ?_
            refine w_u ?_
            refine w_u ?_
            refine w_hF h32 ?_
            refine w_pT h32 ?_
            refine w_gT rfl ?_
            refine w_fadr ?_
            refine w_gT rfl ?_
            refine w_ld (c := rowsC encSub t.fTo) B1 (Nat.le_of_ble_eq_true rfl) rfl ?_
            refine w_gT rfl ?_
            refine w_len ?_
            refine w_gT rfl ?_
            refine w_bin (v := .sc (.bool (decide ((t.fTo.length : Int) > 0)))) (fun k => rfl) ?_
            refine w_pT rfl ?_
            refine w_split ((decide ((t.fTo.length : Int) > 0))) (fun h33 => ?_) (fun h33 => ?_)
            · refine w_cT h33 ?_
              refine w_fadr ?_
              refine w_ld (c := rowsC encSub t.fTo) B1 (Nat.le_of_ble_eq_true rfl) rfl ?_
              refine w_iadr0 lenSub (by decide) (by first | (simp_all; done) | (simp at *; omega)) fun x34 tx34 E34 => ?_
              refine w_fadr_rp ?_
              refine w_ld_rp (c := .sc (.string x34.fClient)) rfl ?_
              refine lw_sc rfl (vcons (Vw_sc _ _) vnil) (implStripeF (n + 1) (by omega) _ x34.fClient (bt _ _ (by assumption))) ?_
              exact w_endI (by first | (have hx : vIn t.fOp 1 7 = false := (by assumption); obtain ⟨e1, e2, e3⟩ := vIn_out hx t.fPc; simp [vHoldsStripe, e1, e2, e3]; done) | (simp_all [vHoldsStripe, lastOf, vFirstTo]; done) | (simp_all [vHoldsStripe, lastOf, vFirstTo, vIn]; omega))
            · refine w_cF h33 ?_
              exact w_endI (by first | (have hx : vIn t.fOp 1 7 = false := (by assumption); obtain ⟨e1, e2, e3⟩ := vIn_out hx t.fPc; simp [vHoldsStripe, e1, e2, e3]; done) | (simp_all [vHoldsStripe, lastOf, vFirstTo]; done) | (simp_all [vHoldsStripe, lastOf, vFirstTo, vIn]; omega))
          · refine w_hT h32 ?_
            refine w_fadr ?_
            refine w_hT h32 ?_
            refine w_ld (c := .sc (.int .i64 t.fOp)) B1 (Nat.le_of_ble_eq_true rfl) rfl ?_
            refine w_hT h32 ?_
            refine w_bin (v := .sc (.bool (t.fOp == 6))) (fun k => rfl) ?_
            refine w_hT h32 ?_
            refine w_split ((t.fOp == 6)) (fun h35 => ?_) (fun h35 => ?_)
            · refine w_gT h35 ?_
              refine w_fadr ?_
              refine w_gT h35 ?_
              refine w_ld (c := .sc (.int .i64 t.fPc)) B1 (Nat.le_of_ble_eq_true rfl) rfl ?_
              refine w_gT h35 ?_
              refine w_bin (v := .sc (.bool (t.fPc == 10))) (fun k => rfl) ?_
              refine w_hT h32 ?_
              refine w_pT h35 ?_
              refine w_pF h32 ?_
              refine w_split ((t.fPc == 10)) (fun h36 => ?_) (fun h36 => ?_)
              · refine w_gT h36 ?_
                refine w_fadr ?_
                refine w_gT h36 ?_
                refine w_ld (c := rowsC encSub t.fTo) B1 (Nat.le_of_ble_eq_true rfl) rfl ?_
                refine w_gT h36 ?_
                refine w_len ?_
                refine w_gT h36 ?_
                refine w_bin (v := .sc (.bool (decide ((t.fTo.length : Int) > 0)))) (fun k => rfl) ?_
                refine w_pT h36 ?_
                refine w_split ((decide ((t.fTo.length : Int) > 0))) (fun h37 => ?_) (fun h37 => ?_)
                · refine w_cT h37 ?_
                  refine w_fadr ?_
                  refine w_ld (c := rowsC encSub t.fTo) B1 (Nat.le_of_ble_eq_true rfl) rfl ?_
                  refine w_iadr0 lenSub (by decide) (by first | (simp_all; done) | (simp at *; omega)) fun x38 tx38 E38 => ?_
                  refine w_fadr_rp ?_
                  refine w_ld_rp (c := .sc (.string x38.fClient)) rfl ?_
                  refine lw_sc rfl (vcons (Vw_sc _ _) vnil) (implStripeF (n + 1) (by omega) _ x38.fClient (bt _ _ (by assumption))) ?_
                  exact w_endI (by first | (have hx : vIn t.fOp 1 7 = false := (by assumption); obtain ⟨e1, e2, e3⟩ := vIn_out hx t.fPc; simp [vHoldsStripe, e1, e2, e3]; done) | (simp_all [vHoldsStripe, lastOf, vFirstTo]; done) | (simp_all [vHoldsStripe, lastOf, vFirstTo, vIn]; omega))
                · refine w_cF h37 ?_
                  exact w_endI (by first | (have hx : vIn t.fOp 1 7 = false := (by assumption); obtain ⟨e1, e2, e3⟩ := vIn_out hx t.fPc; simp [vHoldsStripe, e1, e2, e3]; done) | (simp_all [vHoldsStripe, lastOf, vFirstTo]; done) | (simp_all [vHoldsStripe, lastOf, vFirstTo, vIn]; omega))
              · refine w_gF h36 ?_
                refine w_gF h36 ?_
                refine w_gF h36 ?_
                refine w_gF h36 ?_
                refine w_pF h36 ?_
                refine w_cF rfl ?_
                exact w_endI (by first | (have hx : vIn t.fOp 1 7 = false := (by assumption); obtain ⟨e1, e2, e3⟩ := vIn_out hx t.fPc; simp [vHoldsStripe, e1, e2, e3]; done) | (simp_all [vHoldsStripe, lastOf, vFirstTo]; done) | (simp_all [vHoldsStripe, lastOf, vFirstTo, vIn]; omega))
            · refine w_gF h35 ?_
              refine w_gF h35 ?_
              refine w_gF h35 ?_
              refine w_hT h32 ?_
              refine w_pF h35 ?_
              refine w_pF h32 ?_
              refine w_gF rfl ?_
              refine w_gF rfl ?_
              refine w_gF rfl ?_
              refine w_gF rfl ?_
              refine w_pF rfl ?_
              refine w_cF rfl ?_
              exact w_endI (by first | (have hx : vIn t.fOp 1 7 = false := (by assumption); obtain ⟨e1, e2, e3⟩ := vIn_out hx t.fPc; simp [vHoldsStripe, e1, e2, e3]; done) | (simp_all [vHoldsStripe, lastOf, vFirstTo]; done) | (simp_all [vHoldsStripe, lastOf, vFirstTo, vIn]; omega))
      · refine w_cF h30 ?_
        refine w_bin (v := .sc (.bool (t.fOp == 4))) (fun k => rfl) ?_
        refine w_split ((t.fOp == 4)) (fun h39 => ?_) (fun h39 => ?_)
        · refine w_cT h39 ?_
          refine w_cT h39 ?_
          refine w_fadr ?_
          refine w_ld (c := .sc (.int .i64 t.fPc)) B1 (Nat.le_of_ble_eq_true rfl) rfl ?_
          refine lw_sc rfl (vcons (Vw_sc _ _) (vcons (Vw_sc _ _) (vcons (Vw_sc _ _) vnil))) (withinF (n + 1) _ t.fPc 1 3) ?_
          refine w_split ((vIn t.fPc 1 3)) (fun h40 => ?_) (fun h40 => ?_)
          · refine w_cT h40 ?_
            refine w_fadr ?_
            refine w_ld (c := .sc (.string t.fClient)) B1 (Nat.le_of_ble_eq_true rfl) rfl ?_
            refine lw_sc rfl (vcons (Vw_sc _ _) vnil) (implStripeF (n + 1) (by omega) _ t.fClient bc) ?_
            exact w_endI (by first | (have hx : vIn t.fOp 1 7 = false := (by assumption); obtain ⟨e1, e2, e3⟩ := vIn_out hx t.fPc; simp [vHoldsStripe, e1, e2, e3]; done) | (simp_all [vHoldsStripe, lastOf, vFirstTo]; done) | (simp_all [vHoldsStripe, lastOf, vFirstTo, vIn]; omega))
          · refine w_cF h40 ?_
            refine w_fadr ?_
            refine w_ld (c := .sc (.int .i64 t.fOp)) B1 (Nat.le_of_ble_eq_true rfl) rfl ?_
            refine w_bin (v := .sc (.bool (t.fOp == 2))) (fun k => rfl) ?_
            refine w_gF h30 ?_
            refine w_gF h30 ?_
            refine w_gF h30 ?_
            refine w_pF h30 ?_
            refine w_hT rfl ?_
            refine w_fadr ?_
            refine w_hT rfl ?_
            refine w_ld (c := .sc (.int .i64 t.fOp)) B1 (Nat.le_of_ble_eq_true rfl) rfl ?_
            refine w_hT rfl ?_
            refine w_bin (v := .sc (.bool (t.fOp == 6))) (fun k => rfl) ?_
            refine w_hT rfl ?_
            refine w_split ((t.fOp == 6)) (fun h41 => ?_) (fun h41 => ?_)
            · refine w_gT h41 ?_
              refine w_fadr ?_
              refine w_gT h41 ?_
              refine w_ld (c := .sc (.int .i64 t.fPc)) B1 (Nat.le_of_ble_eq_true rfl) rfl ?_
              refine w_gT h41 ?_
              refine w_bin (v := .sc (.bool (t.fPc == 10))) (fun k => rfl) ?_
              refine w_hT rfl ?_
              refine w_pT h41 ?_
              refine w_pF rfl ?_
              refine w_split ((t.fPc == 10)) (fun h42 => ?_) (fun h42 => ?_)
              · refine w_gT h42 ?_
                refine w_fadr ?_
                refine w_gT h42 ?_
                refine w_ld (c := rowsC encSub t.fTo) B1 (Nat.le_of_ble_eq_true rfl) rfl ?_
                refine w_gT h42 ?_
                refine w_len ?_
                refine w_gT h42 ?_
                refine w_bin (v := .sc (.bool (decide ((t.fTo.length : Int) > 0)))) (fun k => rfl) ?_
                refine w_pT h42 ?_
                refine w_split ((decide ((t.fTo.length : Int) > 0))) (fun h43 => ?_) (fun h43 => ?_)
                · refine w_cT h43 ?_
                  refine w_fadr ?_
                  refine w_ld (c := rowsC encSub t.fTo) B1 (Nat.le_of_ble_eq_true rfl) rfl ?_
                  refine w_iadr0 lenSub (by decide) (by first | (simp_all; done) | (simp at *; omega)) fun x44 tx44 E44 => ?_
                  refine w_fadr_rp ?_
                  refine w_ld_rp (c := .sc (.string x44.fClient)) rfl ?_
                  refine lw_sc rfl (vcons (Vw_sc _ _) vnil) (implStripeF (n + 1) (by omega) _ x44.fClient (bt _ _ (by assumption))) ?_
                  exact w_endI (by first | (have hx : vIn t.fOp 1 7 = false := (by assumption); obtain ⟨e1, e2, e3⟩ := vIn_out hx t.fPc; simp [vHoldsStripe, e1, e2, e3]; done) | (simp_all [vHoldsStripe, lastOf, vFirstTo]; done) | (simp_all [vHoldsStripe, lastOf, vFirstTo, vIn]; omega))
                · refine w_cF h43 ?_
                  exact w_endI (by first | (have hx : vIn t.fOp 1 7 = false := (by assumption); obtain ⟨e1, e2, e3⟩ := vIn_out hx t.fPc; simp [vHoldsStripe, e1, e2, e3]; done) | (simp_all [vHoldsStripe, lastOf, vFirstTo]; done) | (simp_all [vHoldsStripe, lastOf, vFirstTo, vIn]; omega))
              · refine w_gF h42 ?_
                refine w_gF h42 ?_
                refine w_gF h42 ?_
                refine w_gF h42 ?_
                refine w_pF h42 ?_
                refine w_cF rfl ?_
                exact w_endI (by first | (have hx : vIn t.fOp 1 7 = false := (by assumption); obtain ⟨e1, e2, e3⟩ := vIn_out hx t.fPc; simp [vHoldsStripe, e1, e2, e3]; done) | (simp_all [vHoldsStripe, lastOf, vFirstTo]; done) | (simp_all [vHoldsStripe, lastOf, vFirstTo, vIn]; omega))
            · refine w_gF h41 ?_
              refine w_gF h41 ?_
              refine w_gF h41 ?_
              refine w_hT rfl ?_
              refine w_pF h41 ?_
              refine w_pF rfl ?_
              refine w_gF rfl ?_
              refine w_gF rfl ?_
              refine w_gF rfl ?_
              refine w_gF rfl ?_
              refine w_pF rfl ?_
              refine w_cF rfl ?_
              exact w_endI (by first | (have hx : vIn t.fOp 1 7 = false := (by assumption); obtain ⟨e1, e2, e3⟩ := vIn_out hx t.fPc; simp [vHoldsStripe, e1, e2, e3]; done) | (simp_all [vHoldsStripe, lastOf, vFirstTo]; done) | (simp_all [vHoldsStripe, lastOf, vFirstTo, vIn]; omega))
        · refine w_cF h39 ?_
          refine w_bin (v := .sc (.bool (t.fOp == 6))) (fun k => rfl) ?_
          refine w_split ((t.fOp == 6)) (fun h45 => ?_) (fun h45 => ?_)
          · refine w_cT h45 ?_
            refine w_fadr ?_
            refine w_ld (c := .sc (.int .i64 t.fPc)) B1 (Nat.le_of_ble_eq_true rfl) rfl ?_
            refine lw_sc rfl (vcons (Vw_sc _ _) (vcons (Vw_sc _ _) (vcons (Vw_sc _ _) vnil))) (withinF (n + 1) _ t.fPc 1 3) ?_
            refine w_split ((vIn t.fPc 1 3)) (fun h46 => ?_) (fun h46 => ?_)
            · refine w_cT h46 ?_
              refine w_fadr ?_
              refine w_ld (c := .sc (.string t.fClient)) B1 (Nat.le_of_ble_eq_true rfl) rfl ?_
              refine lw_sc rfl (vcons (Vw_sc _ _) vnil) (implStripeF (n + 1) (by omega) _ t.fClient bc) ?_
              exact w_endI (by first | (have hx : vIn t.fOp 1 7 = false := (by assumption); obtain ⟨e1, e2, e3⟩ := vIn_out hx t.fPc; simp [vHoldsStripe, e1, e2, e3]; done) | (simp_all [vHoldsStripe, lastOf, vFirstTo]; done) | (simp_all [vHoldsStripe, lastOf, vFirstTo, vIn]; omega))
            · refine w_cF h46 ?_
              refine w_fadr ?_
              refine w_ld (c := .sc (.int .i64 t.fOp)) B1 (Nat.le_of_ble_eq_true rfl) rfl ?_
              refine w_bin (v := .sc (.bool (t.fOp == 2))) (fun k => rfl) ?_
              refine w_gF h30 ?_
              refine w_gF h30 ?_
              refine w_gF h30 ?_
              refine w_pF h30 ?_
              refine w_hT rfl ?_
              refine w_fadr ?_
              refine w_hT rfl ?_
              refine w_ld (c := .sc (.int .i64 t.fOp)) B1 (Nat.le_of_ble_eq_true rfl) rfl ?_
              refine w_hT rfl ?_
              refine w_bin (v := .sc (.bool (t.fOp == 6))) (fun k => rfl) ?_
              refine w_hT rfl ?_
              refine w_gT h45 ?_
              refine w_fadr ?_
              refine w_gT h45 ?_
              refine w_ld (c := .sc (.int .i64 t.fPc)) B1 (Nat.le_of_ble_eq_true rfl) rfl ?_
              refine w_gT h45 ?_
              refine w_bin (v := .sc (.bool (t.fPc == 10))) (fun k => rfl) ?_
              refine w_hT rfl ?_
              refine w_pT h45 ?_
              refine w_pF rfl ?_
              refine w_split ((t.fPc == 10)) (fun h47 => ?_) (fun h47 => ?_)
              · refine w_gT h47 ?_
                refine w_fadr ?_
                refine w_gT h47 ?_
                refine w_ld (c := rowsC encSub t.fTo) B1 (Nat.le_of_ble_eq_true rfl) rfl ?_
                refine w_gT h47 ?_
                refine w_len ?_
                refine w_gT h47 ?_
                refine w_bin (v := .sc (.bool (decide ((t.fTo.length : Int) > 0)))) (fun k => rfl) ?_
                refine w_pT h47 ?_
                refine w_split ((decide ((t.fTo.length : Int) > 0))) (fun h48 => ?_) (fun h48 => ?_)
                · refine w_cT h48 ?_
                  refine w_fadr ?_
                  refine w_ld (c := rowsC encSub t.fTo) B1 (Nat.le_of_ble_eq_true rfl) rfl ?_
                  refine w_iadr0 lenSub (by decide) (by first | (simp_all; done) | (simp at *; omega)) fun x49 tx49 E49 => ?_
                  refine w_fadr_rp ?_
                  refine w_ld_rp (c := .sc (.string x49.fClient)) rfl ?_
                  refine lw_sc rfl (vcons (Vw_sc _ _) vnil) (implStripeF (n + 1) (by omega) _ x49.fClient (bt _ _ (by assumption))) ?_
                  exact w_endI (by first | (have hx : vIn t.fOp 1 7 = false := (by assumption); obtain ⟨e1, e2, e3⟩ := vIn_out hx t.fPc; simp [vHoldsStripe, e1, e2, e3]; done) | (simp_all [vHoldsStripe, lastOf, vFirstTo]; done) | (simp_all [vHoldsStripe, lastOf, vFirstTo, vIn]; omega))
                · refine w_cF h48 ?_
                  exact w_endI (by first | (have hx : vIn t.fOp 1 7 = false := (by assumption); obtain ⟨e1, e2, e3⟩ := vIn_out hx t.fPc; simp [vHoldsStripe, e1, e2, e3]; done) | (simp_all [vHoldsStripe, lastOf, vFirstTo]; done) | (simp_all [vHoldsStripe, lastOf, vFirstTo, vIn]; omega))
              · refine w_gF h47 ?_
                refine w_gF h47 ?_
                refine w_gF h47 ?_
                refine w_gF h47 ?_
                refine w_pF h47 ?_
                refine w_cF rfl ?_
                exact w_endI (by first | (have hx : vIn t.fOp 1 7 = false := (by assumption); obtain ⟨e1, e2, e3⟩ := vIn_out hx t.fPc; simp [vHoldsStripe, e1, e2, e3]; done) | (simp_all [vHoldsStripe, lastOf, vFirstTo]; done) | (simp_all [vHoldsStripe, lastOf, vFirstTo, vIn]; omega))
          · refine w_cF h45 ?_
            refine w_bin (v := .sc (.bool (t.fOp == 5))) (fun k => rfl) ?_
            refine w_letJ ?_
            refine w_split ((t.fOp == 5)) (fun h50 => ?_) (fun h50 => ?_)
            · refine w_cT h50 ?_
              refine w_cT h50 ?_
              refine w_fadr ?_
              refine w_ld (c := .sc (.int .i64 t.fPc)) B1 (Nat.le_of_ble_eq_true rfl) rfl ?_
              refine lw_sc rfl (vcons (Vw_sc _ _) (vcons (Vw_sc _ _) (vcons (Vw_sc _ _) vnil))) (withinF (n + 1) _ t.fPc 1 1) ?_
              refine w_split ((vIn t.fPc 1 1)) (fun h51 => ?_) (fun h51 => ?_)
              · refine w_cT h51 ?_
                refine w_fadr ?_
                refine w_ld (c := .sc (.string t.fClient)) B1 (Nat.le_of_ble_eq_true rfl) rfl ?_
                refine lw_sc rfl (vcons (Vw_sc _ _) vnil) (implStripeF (n + 1) (by omega) _ t.fClient bc) ?_
                exact w_endI (by first | (have hx : vIn t.fOp 1 7 = false := (by assumption); obtain ⟨e1, e2, e3⟩ := vIn_out hx t.fPc; simp [vHoldsStripe, e1, e2, e3]; done) | (simp_all [vHoldsStripe, lastOf, vFirstTo]; done) | (simp_all [vHoldsStripe, lastOf, vFirstTo, vIn]; omega))
              · refine w_cF h51 ?_
                refine w_fadr ?_
                refine w_ld (c := .sc (.int .i64 t.fOp)) B1 (Nat.le_of_ble_eq_true rfl) rfl ?_
                refine w_bin (v := .sc (.bool (t.fOp == 2))) (fun k => rfl) ?_
                refine w_gF h30 ?_
                refine w_gF h30 ?_
                refine w_gF h30 ?_
                refine w_pF h30 ?_
                refine w_hT rfl ?_
                refine w_fadr ?_
                refine w_hT rfl ?_
                refine w_ld (c := .sc (.int .i64 t.fOp)) B1 (Nat.le_of_ble_eq_true rfl) rfl ?_
                refine w_hT rfl ?_
                refine w_bin (v := .sc (.bool (t.fOp == 6))) (fun k => rfl) ?_
                refine w_hT rfl ?_
                refine w_gF h45 ?_
                refine w_gF h45 ?_
                refine w_gF h45 ?_
                refine w_hT rfl ?_
                refine w_pF h45 ?_
                refine w_pF rfl ?_
                refine w_gF rfl ?_
                refine w_gF rfl ?_
                refine w_gF rfl ?_
                refine w_gF rfl ?_
                refine w_pF rfl ?_
                refine w_cF rfl ?_
                exact w_endI (by first | (have hx : vIn t.fOp 1 7 = false := (by assumption); obtain ⟨e1, e2, e3⟩ := vIn_out hx t.fPc; simp [vHoldsStripe, e1, e2, e3]; done) | (simp_all [vHoldsStripe, lastOf, vFirstTo]; done) | (simp_all [vHoldsStripe, lastOf, vFirstTo, vIn]; omega))
            · refine w_cF h50 ?_
              refine w_bin (v := .sc (.bool (t.fOp == 7))) (fun k => rfl) ?_
              refine w_split ((t.fOp == 7)) (fun h52 => ?_) (fun h52 => ?_)
              · refine w_cT h52 ?_
                refine w_fadr ?_
                refine w_ld (c := .sc (.int .i64 t.fPc)) B1 (Nat.le_of_ble_eq_true rfl) rfl ?_
                refine lw_sc rfl (vcons (Vw_sc _ _) (vcons (Vw_sc _ _) (vcons (Vw_sc _ _) vnil))) (withinF (n + 1) _ t.fPc 1 1) ?_
                refine w_split ((vIn t.fPc 1 1)) (fun h53 => ?_) (fun h53 => ?_)
                · refine w_cT h53 ?_
                  refine w_fadr ?_
                  refine w_ld (c := .sc (.string t.fClient)) B1 (Nat.le_of_ble_eq_true rfl) rfl ?_
                  refine lw_sc rfl (vcons (Vw_sc _ _) vnil) (implStripeF (n + 1) (by omega) _ t.fClient bc) ?_
                  exact w_endI (by first | (have hx : vIn t.fOp 1 7 = false := (by assumption); obtain ⟨e1, e2, e3⟩ := vIn_out hx t.fPc; simp [vHoldsStripe, e1, e2, e3]; done) | (simp_all [vHoldsStripe, lastOf, vFirstTo]; done) | (simp_all [vHoldsStripe, lastOf, vFirstTo, vIn]; omega))
                · refine w_cF h53 ?_
                  refine w_fadr ?_
                  refine w_ld (c := .sc (.int .i64 t.fOp)) B1 (Nat.le_of_ble_eq_true rfl) rfl ?_
                  refine w_bin (v := .sc (.bool (t.fOp == 2))) (fun k => rfl) ?_
                  refine w_gF h30 ?_
                  refine w_gF h30 ?_
                  refine w_gF h30 ?_
                  refine w_pF h30 ?_
                  refine w_hT rfl ?_
                  refine w_fadr ?_
                  refine w_hT rfl ?_
                  refine w_ld (c := .sc (.int .i64 t.fOp)) B1 (Nat.le_of_ble_eq_true rfl) rfl ?_
                  refine w_hT rfl ?_
                  refine w_bin (v := .sc (.bool (t.fOp == 6))) (fun k => rfl) ?_
                  refine w_hT rfl ?_
                  refine w_gF h45 ?_
                  refine w_gF h45 ?_
                  refine w_gF h45 ?_
                  refine w_hT rfl ?_
                  refine w_pF h45 ?_
                  refine w_pF rfl ?_
                  refine w_gF rfl ?_
                  refine w_gF rfl ?_
                  refine w_gF rfl ?_
                  refine w_gF rfl ?_
                  refine w_pF rfl ?_
                  refine w_cF rfl ?_
                  exact w_endI (by first | (have hx : vIn t.fOp 1 7 = false := (by assumption); obtain ⟨e1, e2, e3⟩ := vIn_out hx t.fPc; simp [vHoldsStripe, e1, e2, e3]; done) | (simp_all [vHoldsStripe, lastOf, vFirstTo]; done) | (simp_all [vHoldsStripe, lastOf, vFirstTo, vIn]; omega))
              · refine w_cF h52 ?_
                refine w_fadr ?_
                refine w_ld (c := .sc (.int .i64 t.fPc)) B1 (Nat.le_of_ble_eq_true rfl) rfl ?_
                refine lw_sc rfl (vcons (Vw_sc _ _) (vcons (Vw_sc _ _) (vcons (Vw_sc _ _) vnil))) (withinF (n + 1) _ t.fPc 1 0) ?_
                refine w_split ((vIn t.fPc 1 0)) (fun h54 => ?_) (fun h54 => ?_)
                · refine w_cT h54 ?_
                  refine w_fadr ?_
                  refine w_ld (c := .sc (.string t.fClient)) B1 (Nat.le_of_ble_eq_true rfl) rfl ?_
                  refine lw_sc rfl (vcons (Vw_sc _ _) vnil) (implStripeF (n + 1) (by omega) _ t.fClient bc) ?_
                  exact w_endI (by first | (have hx : vIn t.fOp 1 7 = false := (by assumption); obtain ⟨e1, e2, e3⟩ := vIn_out hx t.fPc; simp [vHoldsStripe, e1, e2, e3]; done) | (simp_all [vHoldsStripe, lastOf, vFirstTo]; done) | (simp_all [vHoldsStripe, lastOf, vFirstTo, vIn]; omega))
                · refine w_cF h54 ?_
                  refine w_fadr ?_
                  refine w_ld (c := .sc (.int .i64 t.fOp)) B1 (Nat.le_of_ble_eq_true rfl) rfl ?_
                  refine w_bin (v := .sc (.bool (t.fOp == 2))) (fun k => rfl) ?_
                  refine w_gF h30 ?_
                  refine w_gF h30 ?_
                  refine w_gF h30 ?_
                  refine w_pF h30 ?_
                  refine w_hT rfl ?_
                  refine w_fadr ?_
                  refine w_hT rfl ?_
                  refine w_ld (c := .sc (.int .i64 t.fOp)) B1 (Nat.le_of_ble_eq_true rfl) rfl ?_
                  refine w_hT rfl ?_
                  refine w_bin (v := .sc (.bool (t.fOp == 6))) (fun k => rfl) ?_
                  refine w_hT rfl ?_
                  refine w_gF h45 ?_
                  refine w_gF h45 ?_
                  refine w_gF h45 ?_
                  refine w_hT rfl ?_
                  refine w_pF h45 ?_
                  refine w_pF rfl ?_
                  refine w_gF rfl ?_
                  refine w_gF rfl ?_
                  refine w_gF rfl ?_
                  refine w_gF rfl ?_
                  refine w_pF rfl ?_
                  refine w_cF rfl ?_
                  exact w_endI (by first | (have hx : vIn t.fOp 1 7 = false := (by assumption); obtain ⟨e1, e2, e3⟩ := vIn_out hx t.fPc; simp [vHoldsStripe, e1, e2, e3]; done) | (simp_all [vHoldsStripe, lastOf, vFirstTo]; done) | (simp_all [vHoldsStripe, lastOf, vFirstTo, vIn]; omega))

end Go.Proofs.Ytnkelipioodhjaa.Abs
