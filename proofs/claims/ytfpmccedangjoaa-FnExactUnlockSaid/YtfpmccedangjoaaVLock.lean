/- Lock and Unlock, as both sides have them. -/
import Derived.Test.YtfpmccedangjoaaVStrC
import Derived.Test.YtfpmccedangjoaaMk
set_option linter.unusedVariables false
set_option linter.unusedSimpArgs false
set_option maxRecDepth 100000
namespace Go.Proofs.Ytfpmccedangjoaa.Abs
open Go

def inR (t lo hi : Int) : Bool := decide (lo ≤ t) && decide (t ≤ hi)
theorem inS (n : Nat) (t lo hi : Int) : tree E0 (n + 1) 4 19 [.sc (.int .i64 t), .sc (.int .i64 lo), .sc (.int .i64 hi)] = some (.sc (.bool (inR t lo hi))) := by
  rw [tree_def, f19_eq, f19]
  simp only [PR_bin, PR_guard, PR_pick]
  refine w_bin (v := .sc (.bool (decide (lo ≤ t)))) (fun k => rfl) ?_
  cases h : decide (lo ≤ t)
  · refine w_gF rfl ?_
    refine w_gF rfl ?_
    refine w_gF rfl ?_
    refine w_pF rfl ?_
    exact w_endB (by rw [inR, h]; rfl)
  · refine w_gT rfl ?_
    refine w_gT rfl ?_
    refine w_gT rfl ?_
    rw [leq64]
    refine w_pT rfl ?_
    exact w_endB (by rw [inR, h]; rfl)
theorem inI (n : Nat) (t lo hi : Int) : tree E0 (n + 1) 4 22 [.sc (.int .i64 t), .sc (.int .i64 lo), .sc (.int .i64 hi)] = some (.sc (.bool (inR t lo hi))) := by
  rw [tree_def, f22_eq, f22]
  simp only [PR_bin, PR_guard, PR_pick]
  refine w_bin (v := .sc (.bool (decide (lo ≤ t)))) (fun k => rfl) ?_
  cases h : decide (lo ≤ t)
  · refine w_gF rfl ?_
    refine w_gF rfl ?_
    refine w_gF rfl ?_
    refine w_pF rfl ?_
    exact w_endB (by rw [inR, h]; rfl)
  · refine w_gT rfl ?_
    refine w_gT rfl ?_
    refine w_gT rfl ?_
    rw [leq64]
    refine w_pT rfl ?_
    exact w_endB (by rw [inR, h]; rfl)

theorem inst_stripe (N : Nat) (s : StripeV) : instL ti0 E0.tp N ctyStripe (encStripe s) = ([.sc (.int .i64 s.fHeld), (instT ti0 E0.tp N 26 (rowsC encSess s.fL)).1], (instT ti0 E0.tp N 26 (rowsC encSess s.fL)).2) := by
  show instL ti0 E0.tp N [3, 26] [.sc (.int .i64 s.fHeld), rowsC encSess s.fL] = _
  simp only [instL, List.headD_cons, List.tail_cons, instT_sc, List.length_nil, Nat.add_zero, List.nil_append, List.append_nil]
theorem leaf_instS (N : Nat) (s : StripeV) : isLeaf (instT ti0 E0.tp N 26 (rowsC encSess s.fL)).1 = true := rfl

/-- The end: the copy is carried to the result's place, and read. -/
theorem lock_fin (s : StripeV) (h : Int) (b : Bool) (b0 : Blk) (A : AV × List Blk) (hA : instT ti0 E0.tp 2 26 (rowsC encSess s.fL) = A) (H : Heap) (hH : H = b0 :: ⟨zzStripe, true, true⟩ :: (A.2 ++ [⟨[.sc (.int .i64 h), A.1], true, true⟩])) :
    (pLoad true 2 (.ptr (2 + A.2.length) 0) H fun t => pStore 2 (.ptr 1 0) t H fun H => pLoad true 2 (.ptr 1 0) H fun r0 => ownTree ti0 E0.tp 29 H (packA [r0, .sc (.bool b)])) = some (.tup [.agg (encStripe { s with fHeld := h }), .sc (.bool b)]) := by
  subst hH
  have hl := leaf_instS 2 s
  rw [hA] at hl
  have hg : (b0 :: ⟨zzStripe, true, true⟩ :: (A.2 ++ [⟨[.sc (.int .i64 h), A.1], true, true⟩]) : Heap)[2 + A.2.length]? = some ⟨[.sc (.int .i64 h), A.1], true, true⟩ := by
    have := get_at (b0 :: ⟨zzStripe, true, true⟩ :: A.2) ⟨[.sc (.int .i64 h), A.1], true, true⟩ []
    rw [List.length_cons, List.length_cons, show A.2.length + 1 + 1 = 2 + A.2.length by omega] at this
    exact this
  refine w_ldA (ds := [.sc (.int .i64 h), A.1]) hg (Nat.le_of_ble_eq_true rfl) rfl ?_
  have hc : cellsA (.agg [.sc (.int .i64 h), A.1]) = some [.sc (.int .i64 h), A.1] := by
    show (if (true && (isLeaf A.1 && true)) = true then _ else none) = _
    rw [hl]
    rfl
  rw [st_at 2 1 0 _ ⟨zzStripe, true, true⟩ [.sc (.int .i64 h), A.1] _ _ rfl hc rfl (Nat.le_of_ble_eq_true rfl) rfl]
  refine w_ldA (ds := [.sc (.int .i64 h), A.1]) (cs := [.sc (.int .i64 h), A.1]) rfl (Nat.le_of_ble_eq_true rfl) rfl ?_
  generalize hX : ([⟨[.sc (.int .i64 h), A.1], true, true⟩] : Heap) = X
  generalize hb1 : (⟨splice zzStripe 0 [.sc (.int .i64 h), A.1], true, true⟩ : Blk) = b1
  have e1 : ownT ti0 E0.tp (b0 :: b1 :: (A.2 ++ X)) 6 26 A.1 = some (rowsC encSess s.fL, List.range' 2 A.2.length) := by
    rw [← hA]
    refine own_inst 6 _ _ 2 (okW_rows (d := 5) lenSess tySessS (okWSess 2) s.fL) ?_
    rw [hA]
    exact Lies_in [b0, b1] A.2 X
  obtain ⟨i, hi, hcy⟩ := tyStripe
  have e2 : ownT ti0 E0.tp (b0 :: b1 :: (A.2 ++ X)) 7 28 (.agg [.sc (.int .i64 h), A.1]) = some (.agg (encStripe { s with fHeld := h }), List.range' 2 A.2.length) := by
    rw [ownT_agg, hi, Option.bind_some, hcy]
    simp only [ctyStripe, ownL, ownT_sc, e1, Option.bind_some, List.nil_append, List.append_nil]
    rfl
  have e3 : ownL (ownT ti0 E0.tp (b0 :: b1 :: (A.2 ++ X)) 7) [28, 4] [.agg [.sc (.int .i64 h), A.1], .sc (.bool b)] = some ([.agg (encStripe { s with fHeld := h }), .sc (.bool b)], List.range' 2 A.2.length) := by
    simp only [ownL, e2, ownT_sc, Option.bind_some, List.append_nil]
  show ownTree ti0 E0.tp 29 (b0 :: b1 :: (A.2 ++ X)) (.tup _) = _
  rw [ownTree, ownT_tup, show E0.tp 29 = some [28, 4] from rfl, Option.bind_some, e3, Option.bind_some, Option.bind_some, if_pos List.nodup_range']

/-- The beginning: the stripe is copied. -/
theorem lock_pre {n g : Nat} {s : StripeV} {K : AV → AV → AV → Heap → Option AV} {r : Option AV} (hh : plainF g = false) (ht : tree E0 n 28 g [.agg (encStripe s)] = some (.agg (encStripe s)))
    (h : ∀ (A : AV × List Blk), instT ti0 E0.tp 2 26 (rowsC encSess s.fL) = A → K (.ptr 0 0) (.ptr 1 0) (.ptr (2 + A.2.length) 0) (⟨encStripe s, true, true⟩ :: ⟨zzStripe, true, true⟩ :: (A.2 ++ [⟨[.sc (.int .i64 s.fHeld), A.1], true, true⟩])) = r) :
    (pBox (.agg (encStripe s)) [] fun t2 H => pNew [.sc (.int .i64 0), .nl] H fun t4 H => pLoad true 2 t2 H fun t7 => (PR n AV).call 28 (.fn g [] []) [t7] H fun t8 H => pNew [.sc (.int .i64 0), .nl] H fun t6 H => pStore 2 t6 t8 H fun H => K t2 t4 t6 H) = r := by
  rw [box_fl _ _ _ (flStripe s)]
  simp only [pNew, List.length_nil, List.nil_append]
  refine w_ldA (ds := encStripe s) (cs := encStripe s) rfl (Nat.le_of_ble_eq_true rfl) rfl ?_
  rw [PR_call hh (vcons (Vw_agg _ (flStripe _)) vnil) ht]
  obtain ⟨i, hi, hc⟩ := tyStripe
  rw [instT_agg, hi, Option.getD_some, hc, inst_stripe]
  have hl := leaf_instS 2 s
  generalize hA : instT ti0 E0.tp 2 26 (rowsC encSess s.fL) = A at hl
  have hA' : instT ti0 E0.tp ([⟨encStripe s, true, true⟩] ++ [⟨[.sc (.int .i64 0), .nl], true, true⟩] : Heap).length 26 (rowsC encSess s.fL) = A := hA
  rw [hA']
  have hc : cellsA (.agg [.sc (.int .i64 s.fHeld), A.1]) = some [.sc (.int .i64 s.fHeld), A.1] := by
    show (if (true && (isLeaf A.1 && true)) = true then _ else none) = _
    rw [hl]
    rfl
  have hN : ([⟨encStripe s, true, true⟩] ++ [⟨[.sc (.int .i64 0), .nl], true, true⟩] ++ A.2 : Heap).length = 2 + A.2.length := by simp; omega
  have hg : ([⟨encStripe s, true, true⟩] ++ [⟨[.sc (.int .i64 0), .nl], true, true⟩] ++ A.2 ++ [⟨[.sc (.int .i64 0), .nl], true, true⟩] : Heap)[2 + A.2.length]? = some ⟨zzStripe, true, true⟩ := by
    rw [← hN]
    exact get_at _ _ []
  show pStore 2 (.ptr ([⟨encStripe s, true, true⟩] ++ [⟨[.sc (.int .i64 0), .nl], true, true⟩] ++ A.2 : Heap).length 0) (.agg [.sc (.int .i64 s.fHeld), A.1]) _ _ = _
  rw [hN, st_at 2 (2 + A.2.length) 0 _ ⟨zzStripe, true, true⟩ [.sc (.int .i64 s.fHeld), A.1] _ _ hg hc rfl (Nat.le_of_ble_eq_true rfl) rfl]
  have hs : ([⟨encStripe s, true, true⟩] ++ [⟨[.sc (.int .i64 0), .nl], true, true⟩] ++ A.2 ++ [⟨[.sc (.int .i64 0), .nl], true, true⟩] : Heap).set (2 + A.2.length) ⟨splice zzStripe 0 [.sc (.int .i64 s.fHeld), A.1], true, true⟩ = ⟨encStripe s, true, true⟩ :: ⟨zzStripe, true, true⟩ :: (A.2 ++ [⟨[.sc (.int .i64 s.fHeld), A.1], true, true⟩]) := by
    rw [← hN]
    have := set_at ([⟨encStripe s, true, true⟩] ++ [⟨[.sc (.int .i64 0), .nl], true, true⟩] ++ A.2 : Heap) ⟨[.sc (.int .i64 0), .nl], true, true⟩ ⟨splice zzStripe 0 [.sc (.int .i64 s.fHeld), A.1], true, true⟩ []
    rw [this]
    rfl
  exact (congrArg (K (.ptr 0 0) (.ptr 1 0) (.ptr (2 + A.2.length) 0)) hs).trans (h A hA)
theorem lock_set {s : StripeV} {t : Int} {b0 : Blk} {A : AV × List Blk} {K : Heap → Option AV} {r : Option AV} (h : K (b0 :: ⟨zzStripe, true, true⟩ :: (A.2 ++ [⟨[.sc (.int .i64 t), A.1], true, true⟩])) = r) :
    pStore 1 (.ptr (2 + A.2.length) (0 + 0)) (.sc (.int .i64 t)) (b0 :: ⟨zzStripe, true, true⟩ :: (A.2 ++ [⟨[.sc (.int .i64 s.fHeld), A.1], true, true⟩])) (fun H => K H) = r := by
  have hN : (b0 :: ⟨zzStripe, true, true⟩ :: A.2 : Heap).length = 2 + A.2.length := by simp; omega
  have hg : (b0 :: ⟨zzStripe, true, true⟩ :: (A.2 ++ [⟨[.sc (.int .i64 s.fHeld), A.1], true, true⟩]) : Heap)[2 + A.2.length]? = some ⟨[.sc (.int .i64 s.fHeld), A.1], true, true⟩ := by
    rw [← hN]
    exact get_at (b0 :: ⟨zzStripe, true, true⟩ :: A.2) _ []
  rw [st_at 1 (2 + A.2.length) (0 + 0) _ _ [.sc (.int .i64 t)] _ _ hg rfl rfl (Nat.le_of_ble_eq_true rfl) rfl]
  have e := set_at (b0 :: ⟨zzStripe, true, true⟩ :: A.2) ⟨[.sc (.int .i64 s.fHeld), A.1], true, true⟩ ⟨[.sc (.int .i64 t), A.1], true, true⟩ []
  rw [hN] at e
  exact (congrArg K e).trans h
theorem lock_held {s : StripeV} {A : List Blk} {b1 : Blk} {K : AV → Option AV} {r : Option AV} (h : K (.sc (.int .i64 s.fHeld)) = r) : pLoad false 1 (.ptr 0 (0 + 0)) (⟨encStripe s, true, true⟩ :: b1 :: A) (fun x => K x) = r :=
  w_ld (cs := encStripe s) (c := .sc (.int .i64 s.fHeld)) rfl (Nat.le_of_ble_eq_true rfl) rfl h

def vLock1 (s : StripeV) (t : Int) : Bool := decide (s.fHeld = -1) && inR t 0 7
def vLock0 (s : StripeV) (t : Int) : StripeV := { s with fHeld := if vLock1 s t then t else s.fHeld }
def vUnlock1 (s : StripeV) (t : Int) : Bool := decide (s.fHeld = t) && inR t 0 7
def vUnlock0 (s : StripeV) (t : Int) : StripeV := { s with fHeld := if vUnlock1 s t then -1 else s.fHeld }

theorem smC (s : StripeV) (h : wtStripe s ≤ 1048576) : smStripeC s := by
  have h1 := smwStripe s h
  refine ⟨h1.1.1, fun x hx => ?_⟩
  have h2 := h1.1.2 x hx
  exact ⟨⟨⟨h2.1.1, fun y hy => (h2.1.2 y hy).1⟩, ⟨h2.2.1.1, fun y hy => (h2.2.1.2 y hy).1⟩⟩, h2.2.2.1⟩
theorem ne_dec (a b : Int) (k : AV → Option AV) : pBin .neq (.sc (.int .i64 a)) (.sc (.int .i64 b)) k = k (.sc (.bool (!decide (a = b)))) := by
  show k (.sc (.bool (!(a == b)))) = _
  rfl

theorem specF_Lock (n : Nat) (hn : 1048576 < n) (x0 : StripeV) (x1 : Int) (k0 : okStripe x0) (k1 : okI x1) (b0 : wtStripe x0 ≤ 1048576) : tree E0 (n + 7) 29 7 [.agg (encStripe x0), .sc (.int .i64 x1)] = some (.tup [.agg (encStripe (vLock0 x0 x1)), .sc (.bool (vLock1 x0 x1))]) := by
  rw [tree_def, f7_eq, f7]
  simp only [PR_box, PR_new, PR_load, PR_store, PR_fadr, PR_bin, PR_guard, PR_un, PR_pick, PR_cond]
  refine lock_pre rfl (l16CopyF n hn x0 (smC x0 b0)) fun A hA => ?_
  refine w_fadr ?_
  refine lock_held ?_
  rw [ne_dec]
  cases h : decide (x0.fHeld = -1)
  · refine w_hF rfl ?_
    refine w_hF rfl ?_
    refine w_hF rfl ?_
    refine w_pT rfl ?_
    refine w_cT rfl ?_
    have e1 : vLock1 x0 x1 = false := by rw [vLock1, h]; rfl
    rw [vLock0, e1]
    exact lock_fin x0 _ false _ A hA _ rfl
  · refine w_hT rfl ?_
    refine w_hT rfl ?_
    rw [PR_call (vs := [.sc (.int .i64 x1), .sc (.int .i64 0), .sc (.int .i64 7)]) rfl (vcons (Vw_sc _ _) (vcons (Vw_sc _ _) (vcons (Vw_sc _ _) vnil))) (inS (n + 5) x1 0 7), instT_sc]
    simp only [List.append_nil]
    refine w_hT rfl ?_
    refine w_not ?_
    refine w_pF rfl ?_
    cases h2 : inR x1 0 7
    · refine w_cT rfl ?_
      have e1 : vLock1 x0 x1 = false := by rw [vLock1, h, h2]; rfl
      rw [vLock0, e1]
      exact lock_fin x0 _ false _ A hA _ rfl
    · refine w_cF rfl ?_
      have e1 : vLock1 x0 x1 = true := by rw [vLock1, h, h2]; rfl
      rw [vLock0, e1]
      refine w_fadr ?_
      refine lock_set ?_
      exact lock_fin x0 _ true _ A hA _ rfl
theorem implF_Lock (n : Nat) (hn : 1048576 < n) (x0 : StripeV) (x1 : Int) (k0 : okStripe x0) (k1 : okI x1) (b0 : wtStripe x0 ≤ 1048576) : tree E0 (n + 7) 29 9 [.agg (encStripe x0), .sc (.int .i64 x1)] = some (.tup [.agg (encStripe (vLock0 x0 x1)), .sc (.bool (vLock1 x0 x1))]) := by
  rw [tree_def, f9_eq, f9]
  simp only [PR_box, PR_new, PR_load, PR_store, PR_fadr, PR_bin, PR_guard, PR_un, PR_pick, PR_cond]
  refine lock_pre rfl (copyStripeF n hn x0 (smC x0 b0)) fun A hA => ?_
  rw [PR_call (vs := [.sc (.int .i64 x1), .sc (.int .i64 0), .sc (.int .i64 7)]) rfl (vcons (Vw_sc _ _) (vcons (Vw_sc _ _) (vcons (Vw_sc _ _) vnil))) (inI (n + 5) x1 0 7), instT_sc]
  simp only [List.append_nil]
  refine w_not ?_
  cases h : inR x1 0 7
  · refine w_hF rfl ?_
    refine w_hF rfl ?_
    refine w_hF rfl ?_
    refine w_pT rfl ?_
    refine w_cT rfl ?_
    have e1 : vLock1 x0 x1 = false := by rw [vLock1, h, Bool.and_false]
    rw [vLock0, e1]
    exact lock_fin x0 _ false _ A hA _ rfl
  · refine w_hT rfl ?_
    refine w_fadr ?_
    refine w_hT rfl ?_
    refine lock_held ?_
    refine w_hT rfl ?_
    rw [ne_dec]
    refine w_pF rfl ?_
    cases h2 : decide (x0.fHeld = -1)
    · refine w_cT rfl ?_
      have e1 : vLock1 x0 x1 = false := by rw [vLock1, h2]; rfl
      rw [vLock0, e1]
      exact lock_fin x0 _ false _ A hA _ rfl
    · refine w_cF rfl ?_
      have e1 : vLock1 x0 x1 = true := by rw [vLock1, h, h2]; rfl
      rw [vLock0, e1]
      refine w_fadr ?_
      refine lock_set ?_
      exact lock_fin x0 _ true _ A hA _ rfl
theorem specF_Unlock (n : Nat) (hn : 1048576 < n) (x0 : StripeV) (x1 : Int) (k0 : okStripe x0) (k1 : okI x1) (b0 : wtStripe x0 ≤ 1048576) : tree E0 (n + 7) 29 13 [.agg (encStripe x0), .sc (.int .i64 x1)] = some (.tup [.agg (encStripe (vUnlock0 x0 x1)), .sc (.bool (vUnlock1 x0 x1))]) := by
  rw [tree_def, f13_eq, f13]
  simp only [PR_box, PR_new, PR_load, PR_store, PR_fadr, PR_bin, PR_guard, PR_un, PR_pick, PR_cond]
  refine lock_pre rfl (l16CopyF n hn x0 (smC x0 b0)) fun A hA => ?_
  refine w_fadr ?_
  refine lock_held ?_
  rw [ne_dec]
  cases h : decide (x0.fHeld = x1)
  · refine w_hF rfl ?_
    refine w_hF rfl ?_
    refine w_hF rfl ?_
    refine w_pT rfl ?_
    refine w_cT rfl ?_
    have e1 : vUnlock1 x0 x1 = false := by rw [vUnlock1, h]; rfl
    rw [vUnlock0, e1]
    exact lock_fin x0 _ false _ A hA _ rfl
  · refine w_hT rfl ?_
    refine w_hT rfl ?_
    rw [PR_call (vs := [.sc (.int .i64 x1), .sc (.int .i64 0), .sc (.int .i64 7)]) rfl (vcons (Vw_sc _ _) (vcons (Vw_sc _ _) (vcons (Vw_sc _ _) vnil))) (inS (n + 5) x1 0 7), instT_sc]
    simp only [List.append_nil]
    refine w_hT rfl ?_
    refine w_not ?_
    refine w_pF rfl ?_
    cases h2 : inR x1 0 7
    · refine w_cT rfl ?_
      have e1 : vUnlock1 x0 x1 = false := by rw [vUnlock1, h, h2]; rfl
      rw [vUnlock0, e1]
      exact lock_fin x0 _ false _ A hA _ rfl
    · refine w_cF rfl ?_
      have e1 : vUnlock1 x0 x1 = true := by rw [vUnlock1, h, h2]; rfl
      rw [vUnlock0, e1]
      refine w_fadr ?_
      refine lock_set ?_
      exact lock_fin x0 _ true _ A hA _ rfl
theorem implF_Unlock (n : Nat) (hn : 1048576 < n) (x0 : StripeV) (x1 : Int) (k0 : okStripe x0) (k1 : okI x1) (b0 : wtStripe x0 ≤ 1048576) : tree E0 (n + 7) 29 14 [.agg (encStripe x0), .sc (.int .i64 x1)] = some (.tup [.agg (encStripe (vUnlock0 x0 x1)), .sc (.bool (vUnlock1 x0 x1))]) := by
  rw [tree_def, f14_eq, f14]
  simp only [PR_box, PR_new, PR_load, PR_store, PR_fadr, PR_bin, PR_guard, PR_un, PR_pick, PR_cond]
  refine lock_pre rfl (copyStripeF n hn x0 (smC x0 b0)) fun A hA => ?_
  rw [PR_call (vs := [.sc (.int .i64 x1), .sc (.int .i64 0), .sc (.int .i64 7)]) rfl (vcons (Vw_sc _ _) (vcons (Vw_sc _ _) (vcons (Vw_sc _ _) vnil))) (inI (n + 5) x1 0 7), instT_sc]
  simp only [List.append_nil]
  refine w_not ?_
  cases h : inR x1 0 7
  · refine w_hF rfl ?_
    refine w_hF rfl ?_
    refine w_hF rfl ?_
    refine w_hF rfl ?_
    refine w_pT rfl ?_
    refine w_cT rfl ?_
    have e1 : vUnlock1 x0 x1 = false := by rw [vUnlock1, h, Bool.and_false]
    rw [vUnlock0, e1]
    exact lock_fin x0 _ false _ A hA _ rfl
  · refine w_hT rfl ?_
    refine w_fadr ?_
    refine w_hT rfl ?_
    refine lock_held ?_
    refine w_hT rfl ?_
    refine w_hT rfl ?_
    rw [ne_dec]
    refine w_pF rfl ?_
    cases h2 : decide (x0.fHeld = x1)
    · refine w_cT rfl ?_
      have e1 : vUnlock1 x0 x1 = false := by rw [vUnlock1, h2]; rfl
      rw [vUnlock0, e1]
      exact lock_fin x0 _ false _ A hA _ rfl
    · refine w_cF rfl ?_
      have e1 : vUnlock1 x0 x1 = true := by rw [vUnlock1, h, h2]; rfl
      rw [vUnlock0, e1]
      refine w_fadr ?_
      refine lock_set ?_
      exact lock_fin x0 _ true _ A hA _ rfl
theorem resF_Lock_0 (x0 : StripeV) (x1 : Int) (b0 : wtStripe x0 ≤ 1048576) : wtStripe (vLock0 x0 x1) ≤ 1048576 ∧ smStripe (vLock0 x0 x1) := ⟨b0, smwStripe (vLock0 x0 x1) b0⟩
theorem resF_Unlock_0 (x0 : StripeV) (x1 : Int) (b0 : wtStripe x0 ≤ 1048576) : wtStripe (vUnlock0 x0 x1) ≤ 1048576 ∧ smStripe (vUnlock0 x0 x1) := ⟨b0, smwStripe (vUnlock0 x0 x1) b0⟩

end Go.Proofs.Ytfpmccedangjoaa.Abs
