/- What the proof needs, part 5: a sound evaluator over trees, the program's functions on it, and what they come to. -/
import Derived.Test.YtdameggfgnpehaaGreatDoorMd
set_option linter.unusedVariables false
set_option linter.unusedSimpArgs false
set_option maxRecDepth 100000
namespace Go.Proofs.YtdameggfgnpehaaGreatDoor.Abs
open Go
theorem leaf_cells {y : AV} (hl : isLeaf y = true) : cellsA y = some [y] := by
 cases y <;> first | (simp [isLeaf] at hl; done) | (simp only [cellsA, hl, if_true]) | rfl
theorem cells3 {v : Value} {x z : AV} (hv : isLeaf (.sc v) = true) (hx : isLeaf x = true) (hz : isLeaf z = true) : cellsA (.agg [.sc v, x, z]) = some [.sc v, x, z] := by
 show (if (isLeaf (.sc v) && (isLeaf x && (isLeaf z && true))) = true then _ else none) = _
 rw [hv, hx, hz]
 rfl
theorem out_fin {H : Heap} {i6 : Nat} {o : OutV} {q' : List MsgV} {x z : AV} {ids1 ids2 : List Nat} {c : Int} (h6 : H[i6]? = some ⟨[.sc (.int .i64 o.fLast), x, z], true, true⟩) (h2 : H[2]? = some ⟨zzOut, true, true⟩) (lx : isLeaf x = true) (lz : isLeaf z = true)
  (ox : ownT ti0 E0.tp H 6 30 x = some (rowsC encFlight o.fFl, ids1)) (oz : ownT ti0 E0.tp H 6 31 z = some (rowsC encMsg q', ids2)) (hn : (ids1 ++ ids2).Nodup) (n1 : 2 ∉ ids1) (n2 : 2 ∉ ids2) :
  (pLoad true 3 (.ptr i6 0) H fun t => pStore 3 (.ptr 2 0) t H fun H => pLoad true 3 (.ptr 2 0) H fun r0 => ownTree ti0 E0.tp 99 H (packA [r0, .sc (.int .i64 c)])) = some (.tup [.agg (encOut { o with fQ := q' }), .sc (.int .i64 c)]) := by
 have l2 : 2 < H.length := (List.getElem?_eq_some_iff.1 h2).1
 refine w_ldA (ds := [.sc (.int .i64 o.fLast), x, z]) h6 (Nat.le_of_ble_eq_true rfl) rfl ?_
 rw [st_at 3 2 0 _ ⟨zzOut, true, true⟩ [.sc (.int .i64 o.fLast), x, z] H _ h2 (cells3 rfl lx lz) rfl (Nat.le_of_ble_eq_true rfl) rfl]
 refine w_ldA (ds := [.sc (.int .i64 o.fLast), x, z]) (cs := [.sc (.int .i64 o.fLast), x, z]) (by rw [List.getElem?_set_self l2]; rfl) (Nat.le_of_ble_eq_true rfl) rfl ?_
 generalize hb : (⟨splice zzOut 0 [.sc (.int .i64 o.fLast), x, z], true, true⟩ : Blk) = b
 have e1 := own_frame (H' := H.set 2 b) 6 _ _ _ ox fun i hi => by rw [List.getElem?_set_ne (fun (e : 2 = i) => n1 (e ▸ hi))]
 have e2 := own_frame (H' := H.set 2 b) 6 _ _ _ oz fun i hi => by rw [List.getElem?_set_ne (fun (e : 2 = i) => n2 (e ▸ hi))]
 obtain ⟨i, hi, hcy⟩ := tyOut
 have e3 : ownT ti0 E0.tp (H.set 2 b) 7 33 (.agg [.sc (.int .i64 o.fLast), x, z]) = some (.agg (encOut { o with fQ := q' }), ids1 ++ ids2) := by
  rw [ownT_agg, hi, Option.bind_some, hcy]
  simp only [ctyOut, ownL, ownT_sc, e1, e2, Option.bind_some, List.nil_append, List.append_nil]
  rfl
 have e4 : ownL (ownT ti0 E0.tp (H.set 2 b) 7) [33, 3] [.agg [.sc (.int .i64 o.fLast), x, z], .sc (.int .i64 c)] = some ([.agg (encOut { o with fQ := q' }), .sc (.int .i64 c)], ids1 ++ ids2) := by
  simp only [ownL, e3, ownT_sc, Option.bind_some, List.append_nil]
 exact tup_own rfl e4 hn
theorem inst_out (N : Nat) (o : OutV) : instL ti0 E0.tp N ctyOut (encOut o) = ([.sc (.int .i64 o.fLast), (instT ti0 E0.tp N 30 (rowsC encFlight o.fFl)).1, (instT ti0 E0.tp (N + (instT ti0 E0.tp N 30 (rowsC encFlight o.fFl)).2.length) 31 (rowsC encMsg o.fQ)).1], (instT ti0 E0.tp N 30 (rowsC encFlight o.fFl)).2 ++ (instT ti0 E0.tp (N + (instT ti0 E0.tp N 30 (rowsC encFlight o.fFl)).2.length) 31 (rowsC encMsg o.fQ)).2) := by
 show instL ti0 E0.tp N [3, 30, 31] [.sc (.int .i64 o.fLast), rowsC encFlight o.fFl, rowsC encMsg o.fQ] = _
 simp only [instL, List.headD_cons, List.tail_cons, instT_sc, List.length_nil, Nat.add_zero, List.nil_append, List.append_nil]
theorem inst_tupP (N : Nat) (q : List MsgV) (c : Int) : instT ti0 E0.tp N 143 (.tup [rowsC encMsg q, .sc (.int .i64 c)]) = (.tup [(instT ti0 E0.tp N 31 (rowsC encMsg q)).1, .sc (.int .i64 c)], (instT ti0 E0.tp N 31 (rowsC encMsg q)).2) := by
 rw [instT_tup, show E0.tp 143 = some [31, 3] from rfl, Option.getD_some]
 simp only [instL, List.headD_cons, List.tail_cons, instT_sc, List.append_nil]
theorem leaf_rows {α : Type} (N ty : Nat) (enc : α → List AV) (l : List α) : isLeaf (instT ti0 E0.tp N ty (rowsC enc l)).1 = true := rfl
theorem out_pre {n gC : Nat} {o : OutV} {m : MsgV} {K : AV → AV → AV → AV → Heap → Option AV} {r : Option AV} (hC : plainF gC = false) (tC : tree E0 n 33 gC [.agg (encOut o)] = some (.agg (encOut o)))
  (h : ∀ (X Q : AV × List Blk), instT ti0 E0.tp 3 30 (rowsC encFlight o.fFl) = X → instT ti0 E0.tp (3 + X.2.length) 31 (rowsC encMsg o.fQ) = Q → K (.ptr 0 0) (.ptr 1 0) (.ptr 2 0) (.ptr (3 + (X.2.length + Q.2.length)) 0) ([⟨encOut o, true, true⟩, ⟨encMsg m, true, true⟩, ⟨zzOut, true, true⟩] ++ (X.2 ++ Q.2) ++ [⟨[.sc (.int .i64 o.fLast), X.1, Q.1], true, true⟩]) = r) :
  (pBox (.agg (encOut o)) [] fun t2 H => pBox (.agg (encMsg m)) H fun t3 H => pNew [.sc (.int .i64 0), .nl, .nl] H fun t4 H => pLoad true 3 t2 H fun t9 => (PR n AV).call 33 (.fn gC [] []) [t9] H fun t10 H => pNew [.sc (.int .i64 0), .nl, .nl] H fun t6 H => pStore 3 t6 t10 H fun H => K t2 t3 t4 t6 H) = r := by
 rw [box_fl _ _ _ (flOut o), box_fl _ _ _ (flMsg m)]
 simp only [pNew, List.length_nil, List.nil_append, List.length_cons, Nat.zero_add, List.length_append, List.cons_append]
 refine w_ldA (ds := encOut o) (cs := encOut o) rfl (Nat.le_of_ble_eq_true rfl) rfl ?_
 rw [PR_call hC (vcons (Vw_agg _ (flOut _)) vnil) tC]
 obtain ⟨i, hi, hc⟩ := tyOut
 rw [instT_agg, hi, Option.getD_some, hc, inst_out]
 have hlX := leaf_rows 3 30 encFlight o.fFl
 generalize hX : instT ti0 E0.tp 3 30 (rowsC encFlight o.fFl) = X at hlX
 have hlQ := leaf_rows (3 + X.2.length) 31 encMsg o.fQ
 generalize hQ : instT ti0 E0.tp (3 + X.2.length) 31 (rowsC encMsg o.fQ) = Q at hlQ
 have hX' : instT ti0 E0.tp ([⟨encOut o, true, true⟩, ⟨encMsg m, true, true⟩, ⟨[.sc (.int .i64 0), .nl, .nl], true, true⟩] : Heap).length 30 (rowsC encFlight o.fFl) = X := hX
 have hQ' : instT ti0 E0.tp (([⟨encOut o, true, true⟩, ⟨encMsg m, true, true⟩, ⟨[.sc (.int .i64 0), .nl, .nl], true, true⟩] : Heap).length + X.2.length) 31 (rowsC encMsg o.fQ) = Q := hQ
 have hh := h X Q hX hQ
 simp only [hX', hQ']
 generalize hb0 : (⟨encOut o, true, true⟩ : Blk) = b0 at hh ⊢
 generalize hb1 : (⟨encMsg m, true, true⟩ : Blk) = b1 at hh ⊢
 have hN : ([b0, b1, ⟨zzOut, true, true⟩] ++ (X.2 ++ Q.2) : Heap).length = 3 + (X.2.length + Q.2.length) := by simp; omega
 have hg : ([b0, b1, ⟨zzOut, true, true⟩] ++ (X.2 ++ Q.2) ++ [⟨zzOut, true, true⟩] : Heap)[3 + (X.2.length + Q.2.length)]? = some ⟨zzOut, true, true⟩ := by
  rw [← hN]
  exact get_at _ _ []
 have hs : ([b0, b1, ⟨zzOut, true, true⟩] ++ (X.2 ++ Q.2) ++ [⟨zzOut, true, true⟩] : Heap).set (3 + (X.2.length + Q.2.length)) ⟨splice zzOut 0 [.sc (.int .i64 o.fLast), X.1, Q.1], true, true⟩ = [b0, b1, ⟨zzOut, true, true⟩] ++ (X.2 ++ Q.2) ++ [⟨[.sc (.int .i64 o.fLast), X.1, Q.1], true, true⟩] := by
  rw [← hN]
  exact set_at _ _ _ []
 have hst := st_at (β := AV) 3 (3 + (X.2.length + Q.2.length)) 0 (.agg [.sc (.int .i64 o.fLast), X.1, Q.1]) ⟨zzOut, true, true⟩ [.sc (.int .i64 o.fLast), X.1, Q.1] ([b0, b1, ⟨zzOut, true, true⟩] ++ (X.2 ++ Q.2) ++ [⟨zzOut, true, true⟩]) (fun H => K (.ptr 0 0) (.ptr 1 0) (.ptr 2 0) (.ptr (3 + (X.2.length + Q.2.length)) 0) H) hg (cells3 rfl hlX hlQ) rfl (Nat.le_of_ble_eq_true rfl) rfl
 rw [hs] at hst
 have e : pStore 3 (.ptr ([b0, b1, ⟨zzOut, true, true⟩] ++ (X.2 ++ Q.2) : Heap).length 0) (.agg [.sc (.int .i64 o.fLast), X.1, Q.1]) ([b0, b1, ⟨zzOut, true, true⟩] ++ (X.2 ++ Q.2) ++ [⟨zzOut, true, true⟩]) (fun H => K (.ptr 0 0) (.ptr 1 0) (.ptr 2 0) (.ptr ([b0, b1, ⟨zzOut, true, true⟩] ++ (X.2 ++ Q.2) : Heap).length 0) H) = r := by
  rw [hN]
  exact hst.trans hh
 exact e
theorem outPush_any {n gC gO gP : Nat} {o : OutV} {m : MsgV} {q' : List MsgV} {c : Int} {ok : Bool} (hC : plainF gC = false) (hO : plainF gO = false) (hP : plainF gP = false) (tC : tree E0 n 33 gC [.agg (encOut o)] = some (.agg (encOut o)))
  (tO : tree E0 n 4 gO [.agg (encOut o)] = some (.sc (.bool ok))) (tP : tree E0 n 143 gP [rowsC encMsg o.fQ, .agg (encMsg m)] = some (.tup [rowsC encMsg q', .sc (.int .i64 c)])) :
  (pBox (.agg (encOut o)) [] fun t2 H => pBox (.agg (encMsg m)) H fun t3 H => pNew [.sc (.int .i64 0), .nl, .nl] H fun t4 H => pLoad true 3 t2 H fun t9 => (PR n AV).call 33 (.fn gC [] []) [t9] H fun t10 H => pNew [.sc (.int .i64 0), .nl, .nl] H fun t6 H => pStore 3 t6 t10 H fun H => pLoad true 3 t2 H fun t11 => (PR n AV).call 4 (.fn gO [] []) [t11] H fun t12 H => pUn .not t12 fun t13 => pCond t13
   (pLoad true 3 t6 H fun t14 => pStore 3 t4 t14 H fun H => pLoad true 3 t4 H fun r0 => ownTree ti0 E0.tp 99 H (packA [r0, .sc (.int .i64 2)]))
   (pFadr 2 t2 fun t16 => pLoad false 1 t16 H fun t17 => pLoad true 4 t3 H fun t18 => (PR n AV).call 143 (.fn gP [] []) [t17, t18] H fun t19 H => pExtr t19 0 fun t20 => pExtr t19 1 fun t21 => pFadr 2 t6 fun t23 => pStore 1 t23 t20 H fun H => pLoad true 3 t6 H fun t24 => pStore 3 t4 t24 H fun H => pLoad true 3 t4 H fun r0 => ownTree ti0 E0.tp 99 H (packA [r0, t21]))) =
  some (.tup [.agg (encOut (if ok then { o with fQ := q' } else o)), .sc (.int .i64 (if ok then c else 2))]) := by
 refine out_pre hC tC fun X Q hX hQ => ?_
 have hlX : isLeaf X.1 = true := by rw [← hX]; exact leaf_rows _ _ _ _
 have hlQ : isLeaf Q.1 = true := by rw [← hQ]; exact leaf_rows _ _ _ _
 generalize hb0 : (⟨encOut o, true, true⟩ : Blk) = b0
 generalize hb1 : (⟨encMsg m, true, true⟩ : Blk) = b1
 have hN : ([b0, b1, ⟨zzOut, true, true⟩] ++ (X.2 ++ Q.2) : Heap).length = 3 + (X.2.length + Q.2.length) := by simp; omega
 have own1 : ∀ R : Heap, ownT ti0 E0.tp ([b0, b1, ⟨zzOut, true, true⟩] ++ (X.2 ++ Q.2) ++ R) 6 30 X.1 = some (rowsC encFlight o.fFl, List.range' 3 X.2.length) := by
  intro R
  rw [← hX]
  refine own_inst 6 _ _ 3 (okW_rows (d := 5) lenFlight tyFlightS (okWFlight 3) o.fFl) ?_
  rw [hX]
  have := Lies_in [b0, b1, ⟨zzOut, true, true⟩] X.2 (Q.2 ++ R)
  rw [List.append_assoc] at this
  rw [List.append_assoc, List.append_assoc]
  exact this
 have own2' : ∀ R : Heap, ownT ti0 E0.tp ([b0, b1, ⟨zzOut, true, true⟩] ++ (X.2 ++ Q.2) ++ R) 6 31 Q.1 = some (rowsC encMsg o.fQ, List.range' (3 + X.2.length) Q.2.length) := by
  intro R
  rw [← hQ]
  refine own_inst 6 _ _ (3 + X.2.length) (okW_rows (d := 5) lenMsg tyMsgS (okWMsg 3) o.fQ) ?_
  rw [hQ]
  have := Lies_in ([b0, b1, ⟨zzOut, true, true⟩] ++ X.2) Q.2 R
  rw [List.length_append, List.append_assoc [b0, b1, ⟨zzOut, true, true⟩] X.2 Q.2] at this
  exact this
 have g0 : ∀ R : Heap, ([b0, b1, ⟨zzOut, true, true⟩] ++ (X.2 ++ Q.2) ++ R : Heap)[0]? = some ⟨encOut o, true, true⟩ := fun R => by rw [hb0]; rfl
 have g1 : ∀ R : Heap, ([b0, b1, ⟨zzOut, true, true⟩] ++ (X.2 ++ Q.2) ++ R : Heap)[1]? = some ⟨encMsg m, true, true⟩ := fun R => by rw [hb1]; rfl
 have g2 : ∀ R : Heap, ([b0, b1, ⟨zzOut, true, true⟩] ++ (X.2 ++ Q.2) ++ R : Heap)[2]? = some ⟨zzOut, true, true⟩ := fun R => rfl
 generalize hA : ([b0, b1, ⟨zzOut, true, true⟩] ++ (X.2 ++ Q.2) : Heap) = A at hN own1 own2' g0 g1 g2 ⊢
 refine lw_ld (g0 _) (lenOut _) ?_
 refine lw_sc hO (vcons (Vw_agg _ (flOut _)) vnil) tO ?_
 refine w_not ?_
 cases ok
 ·refine w_cT rfl ?_
  refine out_fin (q' := o.fQ) (by rw [← hN]; exact get_at A _ []) (g2 _) hlX hlQ (own1 _) (own2' _) ?_ ?_ ?_
  ·have := List.range'_append (s := 3) (m := X.2.length) (n := Q.2.length) (step := 1)
   rw [Nat.one_mul] at this
   rw [this]
   exact List.nodup_range'
  ·rw [List.mem_range'_1]; omega
  ·rw [List.mem_range'_1]; omega
 ·refine w_cF rfl ?_
  refine w_fadr ?_
  refine w_ld (c := rowsC encMsg o.fQ) (g0 _) (Nat.le_of_ble_eq_true rfl) rfl ?_
  refine lw_ld (g1 _) (lenMsg _) ?_
  rw [PR_call hP (vcons (Vw_ro _ _ _) (vcons (Vw_agg _ (flMsg _)) vnil)) tP, inst_tupP]
  have hlP := leaf_rows (A ++ [⟨[.sc (.int .i64 o.fLast), X.1, Q.1], true, true⟩] : Heap).length 31 encMsg q'
  generalize hP : instT ti0 E0.tp (A ++ [⟨[.sc (.int .i64 o.fLast), X.1, Q.1], true, true⟩] : Heap).length 31 (rowsC encMsg q') = P at hlP
  refine w_extr (x := P.1) rfl ?_
  refine w_extr (x := .sc (.int .i64 c)) rfl ?_
  refine w_fadr ?_
  have hg : (A ++ [⟨[.sc (.int .i64 o.fLast), X.1, Q.1], true, true⟩] ++ P.2 : Heap)[3 + (X.2.length + Q.2.length)]? = some ⟨[.sc (.int .i64 o.fLast), X.1, Q.1], true, true⟩ := by
   rw [← hN, List.append_assoc]
   exact get_at A _ P.2
  rw [st_at 1 (3 + (X.2.length + Q.2.length)) (0 + 2) P.1 _ [P.1] _ _ hg (leaf_cells hlP) rfl (Nat.le_of_ble_eq_true rfl) rfl]
  have hs : (A ++ [⟨[.sc (.int .i64 o.fLast), X.1, Q.1], true, true⟩] ++ P.2 : Heap).set (3 + (X.2.length + Q.2.length)) ⟨splice [.sc (.int .i64 o.fLast), X.1, Q.1] (0 + 2) [P.1], true, true⟩ = A ++ (⟨[.sc (.int .i64 o.fLast), X.1, P.1], true, true⟩ :: P.2) := by
   rw [← hN, List.append_assoc]
   exact set_at A _ _ P.2
  rw [hs]
  have oP : ownT ti0 E0.tp (A ++ (⟨[.sc (.int .i64 o.fLast), X.1, P.1], true, true⟩ :: P.2)) 6 31 P.1 = some (rowsC encMsg q', List.range' (A.length + 1) P.2.length) := by
   have hP2 : instT ti0 E0.tp (A.length + 1) 31 (rowsC encMsg q') = P := by
    rw [← hP, List.length_append, List.length_singleton]
   rw [← hP2]
   refine own_inst 6 _ _ (A.length + 1) (okW_rows (d := 5) lenMsg tyMsgS (okWMsg 3) q') ?_
   rw [hP2]
   have := Lies_end (A ++ [⟨[.sc (.int .i64 o.fLast), X.1, P.1], true, true⟩]) P.2
   rw [List.length_append, List.length_singleton, List.append_assoc] at this
   exact this
  refine out_fin (q' := q') (by rw [← hN]; exact get_at A _ P.2) (g2 _) hlX hlP (own1 _) oP ?_ ?_ ?_
  ·rw [List.nodup_append]
   refine ⟨List.nodup_range', List.nodup_range', fun a ha b hb => ?_⟩
   rw [List.mem_range'_1] at ha hb
   omega
  ·rw [List.mem_range'_1]; omega
  ·rw [List.mem_range'_1]; omega
def vOutPush (o : OutV) (m : MsgV) : OutV := if vOutOk o then { o with fQ := vPush o.fQ m } else o
def vOutPushC (o : OutV) (m : MsgV) : Int := if vOutOk o then vPushC o.fQ m else 2
theorem smOC (o : OutV) (h : wtOut o ≤ 1048576) : smOutC o := by
 have h1 := smwOut o h
 exact ⟨⟨h1.1.1, fun y hy => (h1.1.2 y hy).1⟩, ⟨h1.2.1.1, fun y hy => (h1.2.1.2 y hy).1⟩⟩
theorem specF_OutPush (n : Nat) (hn : 1048576 < n) (x0 : OutV) (x1 : MsgV) (k0 : okOut x0) (k1 : okMsg x1) (b0 : wtOut x0 ≤ 1048576) (b1 : wtMsg x1 ≤ 1048576) : tree E0 (n + 11) 99 68 [.agg (encOut x0), .agg (encMsg x1)] = some (.tup [.agg (encOut (vOutPush x0 x1)), .sc (.int .i64 (vOutPushC x0 x1))]) := by
 rw [tree_def, f68_eq, f68]
 simp only [PR_box, PR_new, PR_load, PR_store, PR_fadr, PR_un, PR_cond, PR_extr]
 exact outPush_any rfl rfl rfl (l13CopyF (n + 6) (by omega) x0 (smOC x0 b0)) (specOutF n hn _ x0 b0) (specF_Push (n + 2) (by omega) x0.fQ x1 k0.2.2 k1 (by unfold wtOut at b0; omega) b1)
theorem implF_OutPush (n : Nat) (hn : 1048576 < n) (x0 : OutV) (x1 : MsgV) (k0 : okOut x0) (k1 : okMsg x1) (b0 : wtOut x0 ≤ 1048576) (b1 : wtMsg x1 ≤ 1048576) : tree E0 (n + 11) 99 70 [.agg (encOut x0), .agg (encMsg x1)] = some (.tup [.agg (encOut (vOutPush x0 x1)), .sc (.int .i64 (vOutPushC x0 x1))]) := by
 rw [tree_def, f70_eq, f70]
 simp only [PR_box, PR_new, PR_load, PR_store, PR_fadr, PR_un, PR_cond, PR_extr]
 exact outPush_any rfl rfl rfl (copyOutF (n + 6) (by omega) x0 (smOC x0 b0)) (implOutF n hn _ x0 b0) (implF_Push (n + 1) (by omega) x0.fQ x1 k0.2.2 k1 (by unfold wtOut at b0; omega) b1)
theorem fl_small : ∀ (l pre : List FlightV), flGo pre l = true → wtL wtFlight l ≤ 101 * l.length
 | [], _, _ => Nat.zero_le _
 | x :: l, pre, h => by
  rw [flGo, Bool.and_eq_true] at h
  have h1 : vMsgOk x.fM = true := by
   have := h.1
   simp only [Bool.and_eq_true] at this
   exact this.1.1.2
  have h2 := msg_small x.fM h1
  have h3 := fl_small l _ h.2
  have e : wtL wtFlight (x :: l) = 1 + (wtMsg x.fM + 0) + wtL wtFlight l := rfl
  rw [List.length_cons]
  omega
theorem out_small (o : OutV) (h : vOutOk o = true) : wtL wtFlight o.fFl ≤ 303 ∧ wtL wtMsg o.fQ ≤ 606 := by
 unfold vOutOk at h
 simp only [Bool.and_eq_true, decide_eq_true_eq] at h
 have h1 := fl_small o.fFl [] h.1
 have hq := h.2.2
 unfold vQueueOk at hq
 simp only [Bool.and_eq_true, decide_eq_true_eq] at hq
 have h2 := queue_small o.fQ hq.1
 have h3 := h.2.1.2
 have h4 := hq.2
 omega
theorem outPush_wt (x0 : OutV) (x1 : MsgV) (b0 : wtOut x0 ≤ 1048576) : wtOut (vOutPush x0 x1) ≤ 1048576 := by
 unfold vOutPush
 split
 ·rename_i h
  obtain ⟨h1, h2⟩ := out_small x0 h
  have h3 := (push_wt x0.fQ x1 (by omega)).1
  show wtL wtFlight x0.fFl + (wtL wtMsg (vPush x0.fQ x1) + 0) ≤ _
  omega
 ·exact b0
theorem resF_OutPush_0 (x0 : OutV) (x1 : MsgV) (b0 : wtOut x0 ≤ 1048576) (b1 : wtMsg x1 ≤ 1048576) : wtOut (vOutPush x0 x1) ≤ 1048576 ∧ smOut (vOutPush x0 x1) := ⟨outPush_wt x0 x1 b0, smwOut _ (outPush_wt x0 x1 b0)⟩
end Go.Proofs.YtdameggfgnpehaaGreatDoor.Abs
set_option linter.unusedVariables false
set_option linter.unusedSimpArgs false
set_option maxRecDepth 100000
namespace Go.Proofs.YtdameggfgnpehaaGreatDoor.Abs
open Go
theorem lenI (x : Int) : (encI x).length = 1 := rfl
theorem w_iadrL {α β : Type} {r : Option β} {w : Nat} {enc : α → List AV} {l pre t : List α} {d : α} {K : AV → Option β} (hw : ∀ x, (enc x).length = w) (h0 : 0 < w) (hp : decide ((pre.length : Int) > 0) = true) (hl : l = pre ++ t) (hlen : l.length ≤ 1048576) (h : K (.rp (enc (pre.getLastD d) ++ (t.map enc).flatten)) = r) : pIadr w (rowsC enc l) (.sc (.int .i64 (IntKind.i64.wrap ((pre.length : Int) - 1)))) (fun t => K t) = r := by
 refine w_iadrP hw h0 hp hl hlen fun y hy => ?_
 rw [show pre.getLastD d = y from by rw [List.getLastD_eq_getLast?, hy]; rfl] at h
 exact h
def goIn (l : List Int) : List Int → List Int → Bool
 | pre, [] => decide ((l.length : Int) ≤ 4)
 | pre, x :: r => (vIn x 1 65535 && !(decide ((pre.length : Int) > 0) && decide ((pre.getLastD 0) ≥ x))) && goIn l (pre ++ [x]) r
theorem specIn_loop (n : Nat) (hn : 1048576 < n) (ty : Nat) (l : List Int) (hlen : l.length ≤ 1048576) : ∀ (r pre : List Int) (m : Nat) (H : Heap), l = pre ++ r → r.length < m → f85_l0 (PR (n + 3) AV) (n + 3) (fun x H => ownTree ti0 E0.tp ty H x) m (rowsC encI l) (.sc (.int .i64 pre.length)) H = some (.sc (.bool (goIn l pre r)))
 | [], pre, m + 1, H, hl, hm => by
  have hlt : decide ((pre.length : Int) < (l.length : Int)) = false := by
   rw [hl]
   simp
  show (PR (n + 3) AV).len _ _ = _
  simp only [PR_box, PR_new, PR_fadr, PR_load, PR_store, PR_bin, PR_binB, PR_binA, PR_un, PR_cond, PR_guard, PR_pick, PR_len, PR_lenS, PR_iadr, PR_idx, PR_slice, PR_sliceS, PR_newSl, PR_fill, PR_make, PR_app, PR_cvI, PR_cvBS]
  refine w_len ?_
  refine w_bin (v := .sc (.bool (decide ((pre.length : Int) < (l.length : Int))))) (fun k => rfl) ?_
  refine w_cF hlt ?_
  refine w_len ?_
  refine w_bin (v := .sc (.bool (decide ((l.length : Int) ≤ 4)))) (fun k => rfl) ?_
  exact w_endB (by (try clear ih); (try clear hlt); (try clear hix); (try clear hm); (try clear hmem); (try clear hpl); (try clear hsl); (try clear hlen); (try clear hqn); (try clear hqs); (try clear hs); (try clear B); (try clear B1); (try clear B2); (try clear hl); subst_vars; rw [goIn]; first | done | (cases h1 : vIn x 1 65535 <;> cases h2 : decide ((pre.length : Int) > 0) <;> cases h3 : decide ((pre.getLastD 0) ≥ x) <;> simp [h1, h2, h3] at * <;> first | omega | (simp_all; done) | (simp_all; omega)))
 | x :: r, pre, m + 1, H, hl, hm => by
  have hpl : pre.length < l.length := by rw [hl]; simp
  have hlt : decide ((pre.length : Int) < (l.length : Int)) = true := by simpa using hpl
  have hmem : x ∈ l := by rw [hl]; simp
  have hix : IntKind.i64.wrap ((pre.length : Int) + 1) = (((pre ++ [x]).length : Nat) : Int) := by
   rw [wrap64 _ (by omega) (by omega), List.length_append, List.length_singleton]
   rfl
  show (PR (n + 3) AV).len _ _ = _
  simp only [PR_box, PR_new, PR_fadr, PR_load, PR_store, PR_bin, PR_binB, PR_binA, PR_un, PR_cond, PR_guard, PR_pick, PR_len, PR_lenS, PR_iadr, PR_idx, PR_slice, PR_sliceS, PR_newSl, PR_fill, PR_make, PR_app, PR_cvI, PR_cvBS]
  refine w_len ?_
  refine w_bin (v := .sc (.bool (decide ((pre.length : Int) < (l.length : Int))))) (fun k => rfl) ?_
  refine w_cT hlt ?_
  refine w_iadrE lenI (by decide) hl ?_
  refine w_ld_rp (c := .sc (.int .i64 x)) rfl ?_
  refine lw_sc rfl (vcons (Vw_sc _ _) (vcons (Vw_sc _ _) (vcons (Vw_sc _ _) vnil))) (l1InF (n + 2) _ x 1 65535) ?_
  refine w_not ?_
  apply w_merge ((!(vIn x 1 65535)) || ((decide ((pre.length : Int) > 0)) && (decide ((pre.getLastD 0) ≥ x))))
  ·intro b1 q1
   refine w_split ((vIn x 1 65535)) (fun h1 => ?_) (fun h1 => ?_)
   ·refine w_hT (nF h1) ?_
    refine w_hT (nF h1) ?_
    refine w_bin (v := .sc (.bool (decide ((pre.length : Int) > 0)))) (fun k => rfl) ?_
    refine w_hT (nF h1) ?_
    apply w_merge ((decide ((pre.length : Int) > 0)) && (decide ((pre.getLastD 0) ≥ x)))
    ·intro b2 q2
     refine w_split ((decide ((pre.length : Int) > 0))) (fun h2 => ?_) (fun h2 => ?_)
     ·refine w_gT h2 ?_
      refine w_gT h2 ?_
      refine w_gT h2 ?_
      refine w_bin (v := .sc (.int .i64 (IntKind.i64.wrap ((pre.length : Int) - 1)))) (fun k => rfl) ?_
      refine w_gT h2 ?_
      refine w_iadrL (d := 0) lenI (by decide) h2 hl hlen ?_
      refine w_gT h2 ?_
      refine w_ld_rp (c := .sc (.int .i64 (pre.getLastD 0))) rfl ?_
      refine w_gT h2 ?_
      refine w_gT h2 ?_
      refine w_gT h2 ?_
      refine w_iadrE lenI (by decide) hl ?_
      refine w_gT h2 ?_
      refine w_ld_rp (c := .sc (.int .i64 x)) rfl ?_
      refine w_gT h2 ?_
      refine w_bin (v := .sc (.bool (decide ((pre.getLastD 0) ≥ x)))) (fun k => rfl) ?_
      refine w_hT (nF h1) ?_
      refine w_pTb h2 (mAT q2 h2) ?_
      exact rfl
     ·refine w_gF h2 ?_
      refine w_gF h2 ?_
      refine w_gF h2 ?_
      refine w_gF h2 ?_
      refine w_gF h2 ?_
      refine w_gF h2 ?_
      refine w_gF h2 ?_
      refine w_gF h2 ?_
      refine w_gF h2 ?_
      refine w_gF h2 ?_
      refine w_hT (nF h1) ?_
      refine w_pFb h2 (mAF q2 h2) ?_
      exact rfl
    intro b2 q2
    refine w_pFb (nF h1) (by subst q2; exact mOF q1 (nF h1)) ?_
    exact rfl
   ·refine w_hF (nT h1) ?_
    refine w_hF (nT h1) ?_
    refine w_hF (nT h1) ?_
    refine w_u ?_
    refine w_u ?_
    refine w_u ?_
    refine w_u ?_
    refine w_u ?_
    refine w_u ?_
    refine w_u ?_
    refine w_u ?_
    refine w_u ?_
    refine w_u ?_
    refine w_hF (nT h1) ?_
    refine w_pTb (nT h1) (mOT q1 (nT h1)) ?_
    exact rfl
  intro b1 q1
  refine w_split (b1) (fun h3 => ?_) (fun h3 => ?_)
  ·refine w_cT h3 ?_
   exact w_endB (by (try clear ih); (try clear hlt); (try clear hix); (try clear hm); (try clear hmem); (try clear hpl); (try clear hsl); (try clear hlen); (try clear hqn); (try clear hqs); (try clear hs); (try clear B); (try clear B1); (try clear B2); (try clear hl); subst_vars; rw [goIn]; first | done | (cases h1 : vIn x 1 65535 <;> cases h2 : decide ((pre.length : Int) > 0) <;> cases h3 : decide ((pre.getLastD 0) ≥ x) <;> simp [h1, h2, h3] at * <;> first | omega | (simp_all; done) | (simp_all; omega)))
  ·refine w_cF h3 ?_
   refine w_bin (v := .sc (.int .i64 (IntKind.i64.wrap ((pre.length : Int) + 1)))) (fun k => rfl) ?_
   rw [hix]
   refine (specIn_loop n hn ty l hlen r (pre ++ [x]) m _  (by rw [hl]; simp) (by simpa using hm)).trans (congrArg (fun b => some (AV.sc (Value.bool b))) ?_)
   (try clear ih); (try clear hlt); (try clear hix); (try clear hm); (try clear hmem); (try clear hpl); (try clear hsl); (try clear hlen); (try clear hqn); (try clear hqs); (try clear hs); (try clear B); (try clear B1); (try clear B2); (try clear hl); subst_vars; rw [goIn]; first | done | (cases h1 : vIn x 1 65535 <;> cases h2 : decide ((pre.length : Int) > 0) <;> cases h3 : decide ((pre.getLastD 0) ≥ x) <;> simp [h1, h2, h3] at * <;> first | omega | (simp_all; done) | (simp_all; omega))
theorem implIn_loop (n : Nat) (hn : 1048576 < n) (ty : Nat) (l : List Int) (hlen : l.length ≤ 1048576) : ∀ (r pre : List Int) (m : Nat) (H : Heap), l = pre ++ r → r.length < m → f81_l0 (PR (n + 3) AV) (n + 3) (fun x H => ownTree ti0 E0.tp ty H x) m (rowsC encI l) (rowsC encI l) (.sc (.int .i64 (l.length : Int))) (.sc (.int .i64 pre.length)) H = some (.sc (.bool (goIn l pre r)))
 | [], pre, m + 1, H, hl, hm => by
  have hlt : decide ((pre.length : Int) < (l.length : Int)) = false := by
   rw [hl]
   simp
  show (PR (n + 3) AV).bin _ _ _ _ = _
  simp only [PR_box, PR_new, PR_fadr, PR_load, PR_store, PR_bin, PR_binB, PR_binA, PR_un, PR_cond, PR_guard, PR_pick, PR_len, PR_lenS, PR_iadr, PR_idx, PR_slice, PR_sliceS, PR_newSl, PR_fill, PR_make, PR_app, PR_cvI, PR_cvBS]
  refine w_bin (v := .sc (.bool (decide ((pre.length : Int) < (l.length : Int))))) (fun k => rfl) ?_
  refine w_cF hlt ?_
  refine w_len ?_
  refine w_bin (v := .sc (.bool (decide ((l.length : Int) ≤ 4)))) (fun k => rfl) ?_
  exact w_endB (by (try clear ih); (try clear hlt); (try clear hix); (try clear hm); (try clear hmem); (try clear hpl); (try clear hsl); (try clear hlen); (try clear hqn); (try clear hqs); (try clear hs); (try clear B); (try clear B1); (try clear B2); (try clear hl); subst_vars; rw [goIn]; first | done | (cases h1 : vIn x 1 65535 <;> cases h2 : decide ((pre.length : Int) > 0) <;> cases h3 : decide ((pre.getLastD 0) ≥ x) <;> simp [h1, h2, h3] at * <;> first | omega | (simp_all; done) | (simp_all; omega)))
 | x :: r, pre, m + 1, H, hl, hm => by
  have hpl : pre.length < l.length := by rw [hl]; simp
  have hlt : decide ((pre.length : Int) < (l.length : Int)) = true := by simpa using hpl
  have hmem : x ∈ l := by rw [hl]; simp
  have hix : IntKind.i64.wrap ((pre.length : Int) + 1) = (((pre ++ [x]).length : Nat) : Int) := by
   rw [wrap64 _ (by omega) (by omega), List.length_append, List.length_singleton]
   rfl
  show (PR (n + 3) AV).bin _ _ _ _ = _
  simp only [PR_box, PR_new, PR_fadr, PR_load, PR_store, PR_bin, PR_binB, PR_binA, PR_un, PR_cond, PR_guard, PR_pick, PR_len, PR_lenS, PR_iadr, PR_idx, PR_slice, PR_sliceS, PR_newSl, PR_fill, PR_make, PR_app, PR_cvI, PR_cvBS]
  refine w_bin (v := .sc (.bool (decide ((pre.length : Int) < (l.length : Int))))) (fun k => rfl) ?_
  refine w_cT hlt ?_
  refine w_iadrE lenI (by decide) hl ?_
  refine w_ld_rp (c := .sc (.int .i64 x)) rfl ?_
  refine lw_sc rfl (vcons (Vw_sc _ _) vnil) (isIdF (n + 1) _ x) ?_
  refine w_not ?_
  apply w_merge ((!(vIn x 1 65535)) || ((decide ((pre.length : Int) > 0)) && (decide ((pre.getLastD 0) ≥ x))))
  ·intro b1 q1
   refine w_split ((vIn x 1 65535)) (fun h1 => ?_) (fun h1 => ?_)
   ·refine w_hT (nF h1) ?_
    refine w_hT (nF h1) ?_
    refine w_bin (v := .sc (.bool (decide ((pre.length : Int) > 0)))) (fun k => rfl) ?_
    refine w_hT (nF h1) ?_
    apply w_merge ((decide ((pre.length : Int) > 0)) && (decide ((pre.getLastD 0) ≥ x)))
    ·intro b2 q2
     refine w_split ((decide ((pre.length : Int) > 0))) (fun h2 => ?_) (fun h2 => ?_)
     ·refine w_gT h2 ?_
      refine w_gT h2 ?_
      refine w_gT h2 ?_
      refine w_bin (v := .sc (.int .i64 (IntKind.i64.wrap ((pre.length : Int) - 1)))) (fun k => rfl) ?_
      refine w_gT h2 ?_
      refine w_iadrL (d := 0) lenI (by decide) h2 hl hlen ?_
      refine w_gT h2 ?_
      refine w_ld_rp (c := .sc (.int .i64 (pre.getLastD 0))) rfl ?_
      refine w_gT h2 ?_
      refine w_gT h2 ?_
      refine w_bin (v := .sc (.bool (decide ((pre.getLastD 0) ≥ x)))) (fun k => rfl) ?_
      refine w_hT (nF h1) ?_
      refine w_pTb h2 (mAT q2 h2) ?_
      exact rfl
     ·refine w_gF h2 ?_
      refine w_gF h2 ?_
      refine w_gF h2 ?_
      refine w_gF h2 ?_
      refine w_gF h2 ?_
      refine w_gF h2 ?_
      refine w_gF h2 ?_
      refine w_hT (nF h1) ?_
      refine w_pFb h2 (mAF q2 h2) ?_
      exact rfl
    intro b2 q2
    refine w_pFb (nF h1) (by subst q2; exact mOF q1 (nF h1)) ?_
    exact rfl
   ·refine w_hF (nT h1) ?_
    refine w_hF (nT h1) ?_
    refine w_hF (nT h1) ?_
    refine w_u ?_
    refine w_u ?_
    refine w_u ?_
    refine w_u ?_
    refine w_u ?_
    refine w_u ?_
    refine w_u ?_
    refine w_hF (nT h1) ?_
    refine w_pTb (nT h1) (mOT q1 (nT h1)) ?_
    exact rfl
  intro b1 q1
  refine w_split (b1) (fun h3 => ?_) (fun h3 => ?_)
  ·refine w_cT h3 ?_
   exact w_endB (by (try clear ih); (try clear hlt); (try clear hix); (try clear hm); (try clear hmem); (try clear hpl); (try clear hsl); (try clear hlen); (try clear hqn); (try clear hqs); (try clear hs); (try clear B); (try clear B1); (try clear B2); (try clear hl); subst_vars; rw [goIn]; first | done | (cases h1 : vIn x 1 65535 <;> cases h2 : decide ((pre.length : Int) > 0) <;> cases h3 : decide ((pre.getLastD 0) ≥ x) <;> simp [h1, h2, h3] at * <;> first | omega | (simp_all; done) | (simp_all; omega)))
  ·refine w_cF h3 ?_
   refine w_bin (v := .sc (.int .i64 (IntKind.i64.wrap ((pre.length : Int) + 1)))) (fun k => rfl) ?_
   rw [hix]
   refine (implIn_loop n hn ty l hlen r (pre ++ [x]) m _  (by rw [hl]; simp) (by simpa using hm)).trans (congrArg (fun b => some (AV.sc (Value.bool b))) ?_)
   (try clear ih); (try clear hlt); (try clear hix); (try clear hm); (try clear hmem); (try clear hpl); (try clear hsl); (try clear hlen); (try clear hqn); (try clear hqs); (try clear hs); (try clear B); (try clear B1); (try clear B2); (try clear hl); subst_vars; rw [goIn]; first | done | (cases h1 : vIn x 1 65535 <;> cases h2 : decide ((pre.length : Int) > 0) <;> cases h3 : decide ((pre.getLastD 0) ≥ x) <;> simp [h1, h2, h3] at * <;> first | omega | (simp_all; done) | (simp_all; omega))
def vInOk (l : List Int) : Bool := goIn l [] l
theorem specInF (n : Nat) (hn : 1048576 < n) (ty : Nat) (l : List Int) (hlen : l.length ≤ 1048576) : tree E0 (n + 4) ty 85 [intsC l] = some (.sc (.bool (vInOk l))) := by
 rw [tree_def, f85_eq, f85, ints_rows]
 exact specIn_loop n hn ty l hlen l [] (n + 3) [] rfl (by omega)
theorem implInF (n : Nat) (hn : 1048576 < n) (ty : Nat) (l : List Int) (hlen : l.length ≤ 1048576) : tree E0 (n + 4) ty 81 [intsC l] = some (.sc (.bool (vInOk l))) := by
 rw [tree_def, f81_eq, f81, ints_rows]
 simp only [PR_len]
 refine w_len ?_
 exact implIn_loop n hn ty l hlen l [] (n + 3) [] rfl (by omega)
def vPlace (clean : Bool) (conn gen : Int) : Bool := if conn == -1 then (!clean && gen == 0) else (vIn conn 0 3 && decide (gen ≥ 0))
def vName (s : ByteArray) : Bool := vTextOk s && !(s.toList == (⟨#[]⟩ : ByteArray).toList)
def vSessOk (s : SessV) : Bool := vName s.fClient && decide (s.fBorn ≥ 0) && vPlace s.fClean s.fConn s.fGen && vOutOk s.fO && vInOk s.fIn
theorem sess_hyp (s : SessV) (b0 : wtSess s ≤ 1048576) : s.fClient.size ≤ 1048576 ∧ wtOut s.fO ≤ 1048576 ∧ s.fIn.length ≤ 1048576 := by
 unfold wtSess at b0
 omega
theorem nameOkF (n : Nat) (ty : Nat) (s : ByteArray) (hs : s.size ≤ 1048576) : tree E0 (n + 2) ty 79 [.sc (.string s)] = some (.sc (.bool (vName s))) := by
 rw [tree_def, f79_eq, f79]
 try simp only [PR_box, PR_new, PR_fadr, PR_load, PR_store, PR_bin, PR_binB, PR_binA, PR_un, PR_cond, PR_guard, PR_pick, PR_len, PR_lenS, PR_iadr, PR_idx, PR_slice, PR_sliceS, PR_newSl, PR_fill, PR_make, PR_app, PR_cvI, PR_cvBS]
 refine lw_ext rfl (vcons (Vw_sc _ _) vnil) (implTextF _ s (okS_of hs)) ?_
 apply w_merge ((vTextOk s) && (!(s.toList == (⟨#[]⟩ : ByteArray).toList)))
 ·intro b1 q1
  refine w_split ((vTextOk s)) (fun h1 => ?_) (fun h1 => ?_)
  ·refine w_gT h1 ?_
   refine w_gT h1 ?_
   refine w_bin (v := .sc (.bool (!(s.toList == (⟨#[]⟩ : ByteArray).toList)))) (fun k => rfl) ?_
   refine w_pTb h1 (mAT q1 h1) ?_
   exact rfl
  ·refine w_gF h1 ?_
   refine w_gF h1 ?_
   refine w_pFb h1 (mAF q1 h1) ?_
   exact rfl
 intro b1 q1
 exact w_endB (by subst_vars; rfl)
theorem placeOkF (n : Nat) (ty : Nat) (clean : Bool) (conn : Int) (gen : Int) : tree E0 (n + 2) ty 66 [.sc (.bool clean), .sc (.int .i64 conn), .sc (.int .i64 gen)] = some (.sc (.bool (vPlace clean conn gen))) := by
 rw [tree_def, f66_eq, f66]
 try simp only [PR_box, PR_new, PR_fadr, PR_load, PR_store, PR_bin, PR_binB, PR_binA, PR_un, PR_cond, PR_guard, PR_pick, PR_len, PR_lenS, PR_iadr, PR_idx, PR_slice, PR_sliceS, PR_newSl, PR_fill, PR_make, PR_app, PR_cvI, PR_cvBS]
 refine w_bin (v := .sc (.bool (conn == (-1)))) (fun k => rfl) ?_
 refine w_split ((conn == (-1))) (fun h1 => ?_) (fun h1 => ?_)
 ·refine w_cT h1 ?_
  refine w_not ?_
  apply w_merge ((!clean) && (gen == 0))
  ·intro b2 q2
   refine w_split (clean) (fun h2 => ?_) (fun h2 => ?_)
   ·refine w_gF (nF h2) ?_
    refine w_gF (nF h2) ?_
    refine w_pFb (nF h2) (mAF q2 (nF h2)) ?_
    exact rfl
   ·refine w_gT (nT h2) ?_
    refine w_gT (nT h2) ?_
    refine w_bin (v := .sc (.bool (gen == 0))) (fun k => rfl) ?_
    refine w_pTb (nT h2) (mAT q2 (nT h2)) ?_
    exact rfl
  intro b2 q2
  exact w_endB (by subst_vars; unfold vPlace; simp_all)
 ·refine w_cF h1 ?_
  refine lw_sc rfl (vcons (Vw_sc _ _) (vcons (Vw_sc _ _) (vcons (Vw_sc _ _) vnil))) (withinF (n + 0) _ conn 0 3) ?_
  apply w_merge ((vIn conn 0 3) && (decide (gen ≥ 0)))
  ·intro b3 q3
   refine w_split ((vIn conn 0 3)) (fun h3 => ?_) (fun h3 => ?_)
   ·refine w_gT h3 ?_
    refine w_gT h3 ?_
    refine w_bin (v := .sc (.bool (decide (gen ≥ 0)))) (fun k => rfl) ?_
    refine w_pTb h3 (mAT q3 h3) ?_
    exact rfl
   ·refine w_gF h3 ?_
    refine w_gF h3 ?_
    refine w_pFb h3 (mAF q3 h3) ?_
    exact rfl
  intro b3 q3
  exact w_endB (by subst_vars; unfold vPlace; simp_all)
theorem implSessF (n : Nat) (hn : 1048576 < n) (ty : Nat) (s : SessV) (hs : s.fClient.size ≤ 1048576) (hwo : wtOut s.fO ≤ 1048576) (hin : s.fIn.length ≤ 1048576) : tree E0 (n + 11) ty 30 [.agg (encSess s)] = some (.sc (.bool (vSessOk s))) := by
 rw [tree_def, f30_eq, f30]
 try simp only [PR_box, PR_new, PR_fadr, PR_load, PR_store, PR_bin, PR_binB, PR_binA, PR_un, PR_cond, PR_guard, PR_pick, PR_len, PR_lenS, PR_iadr, PR_idx, PR_slice, PR_sliceS, PR_newSl, PR_fill, PR_make, PR_app, PR_cvI, PR_cvBS]
 refine w_box (flSess _) fun iB1 eB1 B1 => ?_
 refine w_fadr ?_
 refine w_ld (c := .sc (.string s.fClient)) B1 (Nat.le_of_ble_eq_true rfl) rfl ?_
 refine lw_sc rfl (vcons (Vw_sc _ _) vnil) (nameOkF (n + 8) _ s.fClient hs) ?_
 apply w_merge ((vName s.fClient) && (decide (s.fBorn ≥ 0)))
 ·intro b2 q2
  refine w_split ((vName s.fClient)) (fun h2 => ?_) (fun h2 => ?_)
  ·refine w_gT h2 ?_
   refine w_fadr ?_
   refine w_gT h2 ?_
   refine w_ld (c := .sc (.int .i64 s.fBorn)) B1 (Nat.le_of_ble_eq_true rfl) rfl ?_
   refine w_gT h2 ?_
   refine w_bin (v := .sc (.bool (decide (s.fBorn ≥ 0)))) (fun k => rfl) ?_
   refine w_pTb h2 (mAT q2 h2) ?_
   exact rfl
  ·refine w_gF h2 ?_
   refine w_gF h2 ?_
   refine w_gF h2 ?_
   refine w_pFb h2 (mAF q2 h2) ?_
   exact rfl
 intro b2 q2
 apply w_merge (b2 && (vPlace s.fClean s.fConn s.fGen))
 ·intro b3 q3
  refine w_split (b2) (fun h3 => ?_) (fun h3 => ?_)
  ·refine w_gT h3 ?_
   refine w_fadr ?_
   refine w_gT h3 ?_
   refine w_ld (c := .sc (.bool s.fClean)) B1 (Nat.le_of_ble_eq_true rfl) rfl ?_
   refine w_gT h3 ?_
   refine w_fadr ?_
   refine w_gT h3 ?_
   refine w_ld (c := .sc (.int .i64 s.fConn)) B1 (Nat.le_of_ble_eq_true rfl) rfl ?_
   refine w_gT h3 ?_
   refine w_fadr ?_
   refine w_gT h3 ?_
   refine w_ld (c := .sc (.int .i64 s.fGen)) B1 (Nat.le_of_ble_eq_true rfl) rfl ?_
   refine w_gT h3 ?_
   refine lw_sc rfl (vcons (Vw_sc _ _) (vcons (Vw_sc _ _) (vcons (Vw_sc _ _) vnil))) (placeOkF (n + 8) _ s.fClean s.fConn s.fGen) ?_
   refine w_pTb h3 (mAT q3 h3) ?_
   exact rfl
  ·refine w_gF h3 ?_
   refine w_gF h3 ?_
   refine w_gF h3 ?_
   refine w_gF h3 ?_
   refine w_gF h3 ?_
   refine w_gF h3 ?_
   refine w_gF h3 ?_
   refine w_pFb h3 (mAF q3 h3) ?_
   exact rfl
 intro b3 q3
 apply w_merge (b3 && (vOutOk s.fO))
 ·intro b4 q4
  refine w_split (b3) (fun h4 => ?_) (fun h4 => ?_)
  ·refine w_gT h4 ?_
   refine w_fadr ?_
   refine w_gT h4 ?_
   refine w_ldA (ds := encOut s.fO) B1 (Nat.le_of_ble_eq_true rfl) rfl ?_
   refine w_gT h4 ?_
   refine lw_sc rfl (vcons (Vw_agg _ (flOut _)) vnil) (implOutF (n + 0) (by omega) _ s.fO hwo) ?_
   refine w_pTb h4 (mAT q4 h4) ?_
   exact rfl
  ·refine w_gF h4 ?_
   refine w_gF h4 ?_
   refine w_gF h4 ?_
   refine w_pFb h4 (mAF q4 h4) ?_
   exact rfl
 intro b4 q4
 apply w_merge (b4 && (vInOk s.fIn))
 ·intro b5 q5
  refine w_split (b4) (fun h5 => ?_) (fun h5 => ?_)
  ·refine w_gT h5 ?_
   refine w_fadr ?_
   refine w_gT h5 ?_
   refine w_ld (c := intsC s.fIn) B1 (Nat.le_of_ble_eq_true rfl) rfl ?_
   refine w_gT h5 ?_
   refine lw_sc rfl (vcons (Vw_ro _ _ _) vnil) (implInF (n + 6) (by omega) _ s.fIn hin) ?_
   refine w_pTb h5 (mAT q5 h5) ?_
   exact rfl
  ·refine w_gF h5 ?_
   refine w_gF h5 ?_
   refine w_gF h5 ?_
   refine w_pFb h5 (mAF q5 h5) ?_
   exact rfl
 intro b5 q5
 exact w_endB (by subst_vars; rfl)
theorem specSessF (n : Nat) (hn : 1048576 < n) (ty : Nat) (s : SessV) (hs : s.fClient.size ≤ 1048576) (hwo : wtOut s.fO ≤ 1048576) (hin : s.fIn.length ≤ 1048576) : tree E0 (n + 11) ty 31 [.agg (encSess s)] = some (.sc (.bool (vSessOk s))) := by
 rw [tree_def, f31_eq, f31]
 try simp only [PR_box, PR_new, PR_fadr, PR_load, PR_store, PR_bin, PR_binB, PR_binA, PR_un, PR_cond, PR_guard, PR_pick, PR_len, PR_lenS, PR_iadr, PR_idx, PR_slice, PR_sliceS, PR_newSl, PR_fill, PR_make, PR_app, PR_cvI, PR_cvBS]
 refine w_box (flSess _) fun iB1 eB1 B1 => ?_
 refine w_fadr ?_
 refine w_ld (c := .sc (.int .i64 s.fConn)) B1 (Nat.le_of_ble_eq_true rfl) rfl ?_
 refine w_bin (v := .sc (.bool (s.fConn == (-1)))) (fun k => rfl) ?_
 apply w_merge ((s.fConn == (-1)) && (s.fClean || (s.fGen != 0)))
 ·intro b2 q2
  refine w_split ((s.fConn == (-1))) (fun h2 => ?_) (fun h2 => ?_)
  ·refine w_gT h2 ?_
   refine w_fadr ?_
   refine w_gT h2 ?_
   refine w_ld (c := .sc (.bool s.fClean)) B1 (Nat.le_of_ble_eq_true rfl) rfl ?_
   refine w_gT h2 ?_
   apply w_merge (s.fClean || (s.fGen != 0))
   ·intro b3 q3
    refine w_split (s.fClean) (fun h3 => ?_) (fun h3 => ?_)
    ·refine w_hF h3 ?_
     refine w_hF h3 ?_
     refine w_hF h3 ?_
     refine w_gT h2 ?_
     refine w_pTb h3 (mOT q3 h3) ?_
     exact rfl
    ·refine w_hT h3 ?_
     refine w_fadr ?_
     refine w_hT h3 ?_
     refine w_ld (c := .sc (.int .i64 s.fGen)) B1 (Nat.le_of_ble_eq_true rfl) rfl ?_
     refine w_hT h3 ?_
     refine w_bin (v := .sc (.bool (s.fGen != 0))) (fun k => rfl) ?_
     refine w_gT h2 ?_
     refine w_pFb h3 (mOF q3 h3) ?_
     exact rfl
   intro b3 q3
   refine w_pTb h2 (by subst q3; exact mAT q2 h2) ?_
   exact rfl
  ·refine w_gF h2 ?_
   refine w_gF h2 ?_
   refine w_gF h2 ?_
   refine w_u ?_
   refine w_u ?_
   refine w_u ?_
   refine w_gF h2 ?_
   refine w_pFb h2 (mAF q2 h2) ?_
   exact rfl
 intro b2 q2
 refine w_split (b2) (fun h4 => ?_) (fun h4 => ?_)
 ·refine w_cT h4 ?_
  exact w_endB (by (try clear B1); (try clear hs); (try clear hwo); (try clear hin); subst_vars; unfold vSessOk vName vPlace vIn; generalize vOutOk s.fO = o1 at *; generalize vInOk s.fIn = o2 at *; generalize vTextOk s.fClient = o3 at *; generalize (s.fClient.toList == (⟨#[]⟩ : ByteArray).toList) = o4 at *; generalize s.fClean = cl at *; generalize s.fConn = c at *; generalize s.fGen = g at *; generalize s.fBorn = bo at *; cases o1 <;> cases o2 <;> cases o3 <;> cases o4 <;> cases cl <;> (try simp) <;> (try simp at *) <;> first | done | omega | (rw [Bool.eq_iff_iff]; simp; omega) | (simp_all; omega) | (by_cases hc : c = -1 <;> simp [hc] at h4 ⊢ <;> first | done | (intros; omega) | (rw [Bool.eq_iff_iff]; simp; omega) | (simp_all; done) | (simp_all; omega)))
 ·refine w_cF h4 ?_
  refine w_fadr ?_
  refine w_ld (c := .sc (.string s.fClient)) B1 (Nat.le_of_ble_eq_true rfl) rfl ?_
  refine lw_sc rfl (vcons (Vw_sc _ _) vnil) (specTextF (n + 6) (by omega) _ s.fClient) ?_
  apply w_merge ((vTextOk s.fClient) && (!(s.fClient.toList == (⟨#[]⟩ : ByteArray).toList)))
  ·intro b5 q5
   refine w_split ((vTextOk s.fClient)) (fun h5 => ?_) (fun h5 => ?_)
   ·refine w_gT h5 ?_
    refine w_fadr ?_
    refine w_gT h5 ?_
    refine w_ld (c := .sc (.string s.fClient)) B1 (Nat.le_of_ble_eq_true rfl) rfl ?_
    refine w_gT h5 ?_
    refine w_bin (v := .sc (.bool (!(s.fClient.toList == (⟨#[]⟩ : ByteArray).toList)))) (fun k => rfl) ?_
    refine w_pTb h5 (mAT q5 h5) ?_
    exact rfl
   ·refine w_gF h5 ?_
    refine w_gF h5 ?_
    refine w_gF h5 ?_
    refine w_pFb h5 (mAF q5 h5) ?_
    exact rfl
  intro b5 q5
  apply w_merge (b5 && (decide (s.fBorn ≥ 0)))
  ·intro b6 q6
   refine w_split (b5) (fun h6 => ?_) (fun h6 => ?_)
   ·refine w_gT h6 ?_
    refine w_fadr ?_
    refine w_gT h6 ?_
    refine w_ld (c := .sc (.int .i64 s.fBorn)) B1 (Nat.le_of_ble_eq_true rfl) rfl ?_
    refine w_gT h6 ?_
    refine w_bin (v := .sc (.bool (decide (s.fBorn ≥ 0)))) (fun k => rfl) ?_
    refine w_pTb h6 (mAT q6 h6) ?_
    exact rfl
   ·refine w_gF h6 ?_
    refine w_gF h6 ?_
    refine w_gF h6 ?_
    refine w_pFb h6 (mAF q6 h6) ?_
    exact rfl
  intro b6 q6
  apply w_merge (b6 && (vIn s.fConn (-1) 3))
  ·intro b7 q7
   refine w_split (b6) (fun h7 => ?_) (fun h7 => ?_)
   ·refine w_gT h7 ?_
    refine w_fadr ?_
    refine w_gT h7 ?_
    refine w_ld (c := .sc (.int .i64 s.fConn)) B1 (Nat.le_of_ble_eq_true rfl) rfl ?_
    refine w_gT h7 ?_
    refine lw_sc rfl (vcons (Vw_sc _ _) (vcons (Vw_sc _ _) (vcons (Vw_sc _ _) vnil))) (l1InF (n + 9) _ s.fConn (-1) 3) ?_
    refine w_pTb h7 (mAT q7 h7) ?_
    exact rfl
   ·refine w_gF h7 ?_
    refine w_gF h7 ?_
    refine w_gF h7 ?_
    refine w_pFb h7 (mAF q7 h7) ?_
    exact rfl
  intro b7 q7
  apply w_merge (b7 && (decide (s.fGen ≥ 0)))
  ·intro b8 q8
   refine w_split (b7) (fun h8 => ?_) (fun h8 => ?_)
   ·refine w_gT h8 ?_
    refine w_fadr ?_
    refine w_gT h8 ?_
    refine w_ld (c := .sc (.int .i64 s.fGen)) B1 (Nat.le_of_ble_eq_true rfl) rfl ?_
    refine w_gT h8 ?_
    refine w_bin (v := .sc (.bool (decide (s.fGen ≥ 0)))) (fun k => rfl) ?_
    refine w_pTb h8 (mAT q8 h8) ?_
    exact rfl
   ·refine w_gF h8 ?_
    refine w_gF h8 ?_
    refine w_gF h8 ?_
    refine w_pFb h8 (mAF q8 h8) ?_
    exact rfl
  intro b8 q8
  apply w_merge (b8 && (vOutOk s.fO))
  ·intro b9 q9
   refine w_split (b8) (fun h9 => ?_) (fun h9 => ?_)
   ·refine w_gT h9 ?_
    refine w_fadr ?_
    refine w_gT h9 ?_
    refine w_ldA (ds := encOut s.fO) B1 (Nat.le_of_ble_eq_true rfl) rfl ?_
    refine w_gT h9 ?_
    refine lw_sc rfl (vcons (Vw_agg _ (flOut _)) vnil) (specOutF (n + 0) (by omega) _ s.fO hwo) ?_
    refine w_pTb h9 (mAT q9 h9) ?_
    exact rfl
   ·refine w_gF h9 ?_
    refine w_gF h9 ?_
    refine w_gF h9 ?_
    refine w_pFb h9 (mAF q9 h9) ?_
    exact rfl
  intro b9 q9
  apply w_merge (b9 && (vInOk s.fIn))
  ·intro b10 q10
   refine w_split (b9) (fun h10 => ?_) (fun h10 => ?_)
   ·refine w_gT h10 ?_
    refine w_fadr ?_
    refine w_gT h10 ?_
    refine w_ld (c := intsC s.fIn) B1 (Nat.le_of_ble_eq_true rfl) rfl ?_
    refine w_gT h10 ?_
    refine lw_sc rfl (vcons (Vw_ro _ _ _) vnil) (specInF (n + 6) (by omega) _ s.fIn hin) ?_
    refine w_pTb h10 (mAT q10 h10) ?_
    exact rfl
   ·refine w_gF h10 ?_
    refine w_gF h10 ?_
    refine w_gF h10 ?_
    refine w_pFb h10 (mAF q10 h10) ?_
    exact rfl
  intro b10 q10
  exact w_endB (by (try clear B1); (try clear hs); (try clear hwo); (try clear hin); subst_vars; unfold vSessOk vName vPlace vIn; generalize vOutOk s.fO = o1 at *; generalize vInOk s.fIn = o2 at *; generalize vTextOk s.fClient = o3 at *; generalize (s.fClient.toList == (⟨#[]⟩ : ByteArray).toList) = o4 at *; generalize s.fClean = cl at *; generalize s.fConn = c at *; generalize s.fGen = g at *; generalize s.fBorn = bo at *; cases o1 <;> cases o2 <;> cases o3 <;> cases o4 <;> cases cl <;> (try simp) <;> (try simp at *) <;> first | done | omega | (rw [Bool.eq_iff_iff]; simp; omega) | (simp_all; omega) | (by_cases hc : c = -1 <;> simp [hc] at h4 ⊢ <;> first | done | (intros; omega) | (rw [Bool.eq_iff_iff]; simp; omega) | (simp_all; done) | (simp_all; omega)))
theorem specF_SessOk (n : Nat) (hn : 1048576 < n) (s : SessV) (k0 : okSess s) (b0 : wtSess s ≤ 1048576) : tree E0 (n + 11) 4 31 [.agg (encSess s)] = some (.sc (.bool (vSessOk s))) := specSessF n hn _ s (sess_hyp s b0).1 (sess_hyp s b0).2.1 (sess_hyp s b0).2.2
theorem implF_SessOk (n : Nat) (hn : 1048576 < n) (s : SessV) (k0 : okSess s) (b0 : wtSess s ≤ 1048576) : tree E0 (n + 11) 4 30 [.agg (encSess s)] = some (.sc (.bool (vSessOk s))) := implSessF n hn _ s (sess_hyp s b0).1 (sess_hyp s b0).2.1 (sess_hyp s b0).2.2
end Go.Proofs.YtdameggfgnpehaaGreatDoor.Abs
set_option linter.unusedVariables false
set_option linter.unusedSimpArgs false
set_option maxRecDepth 100000
namespace Go.Proofs.YtdameggfgnpehaaGreatDoor.Abs
open Go
variable {β : Type} {n : Nat} {r : Option β}
def iv (l : List Int) : List Value := l.map fun z => .int .i64 z
theorem ints_map (l : List Int) : (l.map fun z => AV.sc (.int .i64 z)) = (iv l).map AV.sc := by rw [iv, List.map_map]; rfl
theorem app_ints (l : List Int) (hs : l.length ≤ 1048576) (H : Heap) (K : AV → Heap → Option β) : pApp 1 8 .nl (intsC l) H K = K (.sl H.length 0 l.length 1) (H ++ [⟨l.map fun z => .sc (.int .i64 z), true, true⟩]) := by
 have e1 : content H 1 (intsC l) = some (l.map fun z => .sc (.int .i64 z)) := by
  show (if (l.map fun z => AV.sc (.int .i64 z)).length = l.length * 1 then some (l.map fun z => AV.sc (.int .i64 z)) else none) = _
  rw [if_pos (by simp)]
 have e2 : content H 1 .nl = some [] := rfl
 have e3 : lenA (intsC l) = some l.length := rfl
 simp only [pApp, lenA, e1, e2, kill, Option.bind_some, e3]
 rw [if_pos (by omega), if_pos (by simp [isLeaf, leafV])]
 simp only [pNewSl, Nat.zero_add, List.nil_append]
theorem own_ints {H : Heap} {id d : Nat} {l : List Int} (h : H[id]? = some ⟨l.map fun z => .sc (.int .i64 z), true, true⟩) : ownT ti0 E0.tp H (d + 2) 26 (.sl id 0 l.length 1) = some (intsC l, [id]) := by
 rw [ownT_sl]
 have ha : isApp H id = true := by simp only [isApp, h]
 have hr : rdCells H id 0 (l.length * 1) = some (l.map fun z => .sc (.int .i64 z)) := by
  simp only [rdCells, h, if_true, Nat.zero_add, Nat.mul_one, List.length_map, Nat.le_refl, List.drop_zero]
  congr 1
  exact List.take_of_length_le (by simp)
 obtain ⟨i, j, h1, h2, h3, h4⟩ := tyIntS
 simp only [h1, h2, Option.bind_some, h3, if_true, ha, hr]
 have ho := ownL_sc (ti := ti0) (tp := E0.tp) (H := H) (d := d) (List.replicate l.length j.cty).flatten (iv l) (by simp [iv, h4])
 rw [ints_map, ho, Option.bind_some, ← ints_map]
theorem inst_ints (N : Nat) (l : List Int) : instT ti0 E0.tp N 26 (intsC l) = (.sl N 0 l.length 1, [⟨l.map fun z => .sc (.int .i64 z), true, true⟩]) := by
 obtain ⟨i, j, h1, h2, h3, h4⟩ := tyIntS
 show instT ti0 E0.tp N 26 (.ro l.length (l.map fun z => .sc (.int .i64 z))) = _
 simp only [instT, h1, Option.bind_some, h2, Option.getD_some, h3, ints_map, instL_sc]
theorem copyIntsF (n : Nat) (l : List Int) (hs : l.length ≤ 1048576) : tree E0 (n + 1) 26 127 [intsC l] = some (intsC l) := by
 rw [tree_def, f127_eq, f127]
 simp only [PR_app]
 rw [app_ints l hs, ownTree, own_ints (d := 6) (l := l) rfl]
 rfl
def smSessC (s : SessV) : Prop := smOutC s.fO ∧ s.fIn.length ≤ 1048576
theorem own_sess {H : Heap} {s : SessV} {ys : List AV} {N1 N2 m : Nat} (h1 : ownL (ownT ti0 E0.tp H 7) ctyOut ys = some (encOut s.fO, List.range' N1 m)) (hl : ys.length = 3) (h2 : H[N2]? = some ⟨s.fIn.map fun z => .sc (.int .i64 z), true, true⟩) (hd : N1 + m ≤ N2) :
  ownTree ti0 E0.tp 35 H (.agg ([.sc (.string s.fClient), .sc (.int .i64 s.fBorn), .sc (.bool s.fClean), .sc (.int .i64 s.fConn), .sc (.int .i64 s.fGen)] ++ (ys ++ [.sl N2 0 s.fIn.length 1]))) = some (.agg (encSess s)) := by
 obtain ⟨i, hi, hc⟩ := tySess
 have h3 := own_ints (d := 5) h2
 have e1 : ownL (ownT ti0 E0.tp H 7) [26] [.sl N2 0 s.fIn.length 1] = some ([intsC s.fIn], [N2]) := by
  simp only [ownL, h3, Option.bind_some, List.append_nil]
 have e2 := ownL_append h1 e1
 have e3 : ownL (ownT ti0 E0.tp H 7) [9, 3, 4, 3, 3] [.sc (.string s.fClient), .sc (.int .i64 s.fBorn), .sc (.bool s.fClean), .sc (.int .i64 s.fConn), .sc (.int .i64 s.fGen)] = some ([.sc (.string s.fClient), .sc (.int .i64 s.fBorn), .sc (.bool s.fClean), .sc (.int .i64 s.fConn), .sc (.int .i64 s.fGen)], []) := by
  simp only [ownL, ownT_sc, Option.bind_some, List.append_nil]
 have e4 := ownL_append e3 e2
 have hcy : ctySess = [9, 3, 4, 3, 3] ++ (ctyOut ++ [26]) := rfl
 rw [ownTree, ownT_agg, hi, Option.bind_some, hc, hcy, e4]
 simp only [Option.bind_some, List.nil_append]
 rw [if_pos]
 ·rfl
 ·rw [List.nodup_append]
  refine ⟨List.nodup_range', by simp, fun a ha b hb => ?_⟩
  rw [List.mem_range'_1] at ha
  rw [List.mem_singleton] at hb
  omega
theorem ys3 {ys : List AV} (h : ys.length = 3) : ∃ a b c, ys = [a, b, c] := by
 match ys, h with
 | [a, b, c], _ => exact ⟨a, b, c, rfl⟩
theorem copySessF (n : Nat) (hn : 1048576 < n) (s : SessV) (hs : smSessC s) : tree E0 (n + 5) 35 62 [.agg (encSess s)] = some (.agg (encSess s)) := by
 rw [tree_def, f62_eq, f62]
 simp only [PR_box, PR_new, PR_fadr, PR_load, PR_store, pNew]
 rw [box_fl _ _ _ (flSess s)]
 simp only [List.length_nil, List.nil_append, List.length_cons, Nat.zero_add]
 have hz : ([⟨[.sc (.string ⟨#[]⟩), .sc (.int .i64 0), .sc (.bool false), .sc (.int .i64 0), .sc (.int .i64 0), .sc (.int .i64 0), .nl, .nl, .nl], true, true⟩] : Heap) = [⟨zzSess, true, true⟩] := rfl
 rw [hz]
 have hH : ([⟨encSess s, true, true⟩] ++ [⟨zzSess, true, true⟩] : Heap)[0]? = some ⟨encSess s, true, true⟩ := rfl
 refine w_fadr ?_
 refine w_ldA (ds := encOut s.fO) hH (Nat.le_of_ble_eq_true rfl) rfl ?_
 refine w_fadr ?_
 refine w_ld (c := intsC s.fIn) hH (Nat.le_of_ble_eq_true rfl) rfl ?_
 rw [PR_call (vs := [.agg (encOut s.fO)]) rfl (vcons (Vw_agg _ (flOut _)) vnil) (copyOutF n hn s.fO hs.1)]
 obtain ⟨i, hi, hc⟩ := tyOut
 rw [instT_agg, hi, Option.getD_some, hc]
 simp only
 generalize hB : instL ti0 E0.tp ([⟨encSess s, true, true⟩] ++ [⟨zzSess, true, true⟩] : Heap).length ctyOut (encOut s.fO) = B
 have hBl : B.1.length = 3 := by rw [← hB, instL_len]; rfl
 have hBf : B.1.all isLeaf = true := by rw [← hB]; exact instL_leaf _ _ _ (flOut _)
 refine w_fadr ?_
 rw [PR_call (vs := [intsC s.fIn]) rfl (vcons (Vw_ro _ _ _) vnil) (copyIntsF (n + 3) s.fIn hs.2), inst_ints]
 simp only
 have hN : ([⟨encSess s, true, true⟩] ++ [⟨zzSess, true, true⟩] ++ B.2 : Heap).length = 2 + B.2.length := by simp; omega
 rw [hN]
 obtain ⟨a, b, c, habc⟩ := ys3 hBl
 have hBc : cellsA (.agg B.1) = some [a, b, c] := by
  show (if _ then _ else none) = _
  rw [if_pos hBf, habc]
 rw [st_at 3 0 (0 + 5) (.agg B.1) ⟨encSess s, true, true⟩ [a, b, c] _ _ rfl hBc rfl (Nat.le_of_ble_eq_true rfl) rfl]
 refine w_fadr ?_
 rw [st_at 1 0 (0 + 8) (.sl (2 + B.2.length) 0 s.fIn.length 1) ⟨splice (encSess s) (0 + 5) [a, b, c], true, true⟩ [.sl (2 + B.2.length) 0 s.fIn.length 1] _ _ rfl rfl rfl (Nat.le_of_ble_eq_true rfl) rfl]
 refine w_ldA (ds := [.sc (.string s.fClient), .sc (.int .i64 s.fBorn), .sc (.bool s.fClean), .sc (.int .i64 s.fConn), .sc (.int .i64 s.fGen), a, b, c, .sl (2 + B.2.length) 0 s.fIn.length 1]) (cs := [.sc (.string s.fClient), .sc (.int .i64 s.fBorn), .sc (.bool s.fClean), .sc (.int .i64 s.fConn), .sc (.int .i64 s.fGen), a, b, c, .sl (2 + B.2.length) 0 s.fIn.length 1]) rfl (Nat.le_of_ble_eq_true rfl) rfl ?_
 have hlf : [AV.sc (.string s.fClient), .sc (.int .i64 s.fBorn), .sc (.bool s.fClean), .sc (.int .i64 s.fConn), .sc (.int .i64 s.fGen), a, b, c, .sl (2 + B.2.length) 0 s.fIn.length 1].all isLeaf = true := by
  rw [habc] at hBf
  simp only [List.all_cons, List.all_nil, Bool.and_true, Bool.and_eq_true] at hBf
  simp [isLeaf, leafV] at hBf ⊢
  exact hBf
 have hcc : cellsA (.agg [.sc (.string s.fClient), .sc (.int .i64 s.fBorn), .sc (.bool s.fClean), .sc (.int .i64 s.fConn), .sc (.int .i64 s.fGen), a, b, c, .sl (2 + B.2.length) 0 s.fIn.length 1]) = some [.sc (.string s.fClient), .sc (.int .i64 s.fBorn), .sc (.bool s.fClean), .sc (.int .i64 s.fConn), .sc (.int .i64 s.fGen), a, b, c, .sl (2 + B.2.length) 0 s.fIn.length 1] := by
  show (if _ then _ else none) = _
  rw [if_pos hlf]
 rw [st_at 9 1 0 _ ⟨zzSess, true, true⟩ _ _ _ rfl hcc rfl (by decide) rfl]
 refine w_ldA (ds := [.sc (.string s.fClient), .sc (.int .i64 s.fBorn), .sc (.bool s.fClean), .sc (.int .i64 s.fConn), .sc (.int .i64 s.fGen), a, b, c, .sl (2 + B.2.length) 0 s.fIn.length 1]) (cs := [.sc (.string s.fClient), .sc (.int .i64 s.fBorn), .sc (.bool s.fClean), .sc (.int .i64 s.fConn), .sc (.int .i64 s.fGen), a, b, c, .sl (2 + B.2.length) 0 s.fIn.length 1]) rfl (Nat.le_of_ble_eq_true rfl) rfl ?_
 have lB : ∀ (b0 b1 : Blk) (X : List Blk), ownL (ownT ti0 E0.tp (b0 :: b1 :: (B.2 ++ X)) 7) ctyOut B.1 = some (encOut s.fO, List.range' 2 B.2.length) := by
  intro b0 b1 X
  have := own_instL (H := b0 :: b1 :: (B.2 ++ X)) (fun ty t N h h' _ => own_inst 7 ty t N h h') ctyOut (encOut s.fO) 2 (okWOut 4 s.fO) (by
   rw [show instL ti0 E0.tp 2 ctyOut (encOut s.fO) = B from hB]
   exact Lies_in [b0, b1] B.2 X) (instL_live _ _ _)
  rw [show instL ti0 E0.tp 2 ctyOut (encOut s.fO) = B from hB] at this
  exact this
 have key := fun (b0 b1 : Blk) => own_sess (H := b0 :: b1 :: (B.2 ++ [⟨s.fIn.map fun z => .sc (.int .i64 z), true, true⟩])) (N2 := 2 + B.2.length) (lB b0 b1 _) hBl (by
  have := get_at (b0 :: b1 :: B.2) ⟨s.fIn.map fun z => .sc (.int .i64 z), true, true⟩ []
  rw [List.length_cons, List.length_cons, show B.2.length + 1 + 1 = 2 + B.2.length by omega] at this
  exact this) (Nat.le_refl _)
 rw [habc] at key
 have hfin := key ⟨[.sc (.string s.fClient), .sc (.int .i64 s.fBorn), .sc (.bool s.fClean), .sc (.int .i64 s.fConn), .sc (.int .i64 s.fGen), a, b, c, .sl (2 + B.2.length) 0 s.fIn.length 1], true, true⟩ ⟨[.sc (.string s.fClient), .sc (.int .i64 s.fBorn), .sc (.bool s.fClean), .sc (.int .i64 s.fConn), .sc (.int .i64 s.fGen), a, b, c, .sl (2 + B.2.length) 0 s.fIn.length 1], true, true⟩
 exact hfin
theorem l15CopyF (n : Nat) (hn : 1048576 < n) (s : SessV) (hs : smSessC s) : tree E0 (n + 5) 35 60 [.agg (encSess s)] = some (.agg (encSess s)) := by
 rw [tree_def, f60_eq, f60]
 simp only [PR_box, PR_new, PR_fadr, PR_load, PR_store, PR_app, pNew]
 rw [box_fl _ _ _ (flSess s)]
 simp only [List.length_nil, List.nil_append, List.length_cons, Nat.zero_add]
 have hz : ([⟨[.sc (.string ⟨#[]⟩), .sc (.int .i64 0), .sc (.bool false), .sc (.int .i64 0), .sc (.int .i64 0), .sc (.int .i64 0), .nl, .nl, .nl], true, true⟩] : Heap) = [⟨zzSess, true, true⟩] := rfl
 rw [hz]
 have hH : ([⟨encSess s, true, true⟩] ++ [⟨zzSess, true, true⟩] : Heap)[0]? = some ⟨encSess s, true, true⟩ := rfl
 refine w_ldA (ds := encSess s) hH (Nat.le_of_ble_eq_true rfl) rfl ?_
 rw [show ([⟨encSess s, true, true⟩] ++ [⟨zzSess, true, true⟩] : Heap).length = 2 from rfl]
 rw [st_at 9 2 0 (.agg (encSess s)) ⟨zzSess, true, true⟩ (encSess s) _ _ rfl (fl_cells (flSess s)) rfl (by decide) rfl]
 have hH2 : ([⟨encSess s, true, true⟩] ++ [⟨zzSess, true, true⟩] ++ [⟨zzSess, true, true⟩] : Heap).set 2 ⟨splice zzSess 0 (encSess s), true, true⟩ = [⟨encSess s, true, true⟩, ⟨zzSess, true, true⟩, ⟨encSess s, true, true⟩] := rfl
 simp only [hH2]
 refine w_fadr ?_
 refine w_ldA (ds := encOut s.fO) (cs := encSess s) rfl (Nat.le_of_ble_eq_true rfl) rfl ?_
 rw [PR_call (vs := [.agg (encOut s.fO)]) rfl (vcons (Vw_agg _ (flOut _)) vnil) (l13CopyF n hn s.fO hs.1)]
 obtain ⟨i, hi, hc⟩ := tyOut
 rw [instT_agg, hi, Option.getD_some, hc]
 simp only
 generalize hB : instL ti0 E0.tp ([⟨encSess s, true, true⟩, ⟨zzSess, true, true⟩, ⟨encSess s, true, true⟩] : Heap).length ctyOut (encOut s.fO) = B
 have hBl : B.1.length = 3 := by rw [← hB, instL_len]; rfl
 have hBf : B.1.all isLeaf = true := by rw [← hB]; exact instL_leaf _ _ _ (flOut _)
 obtain ⟨a, b, c, habc⟩ := ys3 hBl
 have hBc : cellsA (.agg B.1) = some [a, b, c] := by
  show (if _ then _ else none) = _
  rw [if_pos hBf, habc]
 refine w_fadr ?_
 rw [st_at 3 2 (0 + 5) (.agg B.1) ⟨encSess s, true, true⟩ [a, b, c] _ _ rfl hBc rfl (Nat.le_of_ble_eq_true rfl) rfl]
 refine w_fadr ?_
 refine w_ld (c := intsC s.fIn) (cs := encSess s) rfl (Nat.le_of_ble_eq_true rfl) rfl ?_
 rw [app_ints s.fIn hs.2]
 have hset : ([⟨encSess s, true, true⟩, ⟨zzSess, true, true⟩, ⟨encSess s, true, true⟩] ++ B.2 : Heap).set 2 ⟨splice (encSess s) (0 + 5) [a, b, c], true, true⟩ = [⟨encSess s, true, true⟩, ⟨zzSess, true, true⟩, ⟨splice (encSess s) (0 + 5) [a, b, c], true, true⟩] ++ B.2 := rfl
 simp only [hset]
 have hN : ([⟨encSess s, true, true⟩, ⟨zzSess, true, true⟩, ⟨splice (encSess s) (0 + 5) [a, b, c], true, true⟩] ++ B.2 : Heap).length = 3 + B.2.length := by simp; omega
 rw [hN]
 refine w_fadr ?_
 rw [st_at 1 2 (0 + 8) (.sl (3 + B.2.length) 0 s.fIn.length 1) ⟨splice (encSess s) (0 + 5) [a, b, c], true, true⟩ [.sl (3 + B.2.length) 0 s.fIn.length 1] _ _ rfl rfl rfl (Nat.le_of_ble_eq_true rfl) rfl]
 refine w_ldA (ds := [.sc (.string s.fClient), .sc (.int .i64 s.fBorn), .sc (.bool s.fClean), .sc (.int .i64 s.fConn), .sc (.int .i64 s.fGen), a, b, c, .sl (3 + B.2.length) 0 s.fIn.length 1]) (cs := [.sc (.string s.fClient), .sc (.int .i64 s.fBorn), .sc (.bool s.fClean), .sc (.int .i64 s.fConn), .sc (.int .i64 s.fGen), a, b, c, .sl (3 + B.2.length) 0 s.fIn.length 1]) rfl (Nat.le_of_ble_eq_true rfl) rfl ?_
 have hlf : [AV.sc (.string s.fClient), .sc (.int .i64 s.fBorn), .sc (.bool s.fClean), .sc (.int .i64 s.fConn), .sc (.int .i64 s.fGen), a, b, c, .sl (3 + B.2.length) 0 s.fIn.length 1].all isLeaf = true := by
  rw [habc] at hBf
  simp only [List.all_cons, List.all_nil, Bool.and_true, Bool.and_eq_true] at hBf
  simp [isLeaf, leafV] at hBf ⊢
  exact hBf
 have hcc : cellsA (.agg [.sc (.string s.fClient), .sc (.int .i64 s.fBorn), .sc (.bool s.fClean), .sc (.int .i64 s.fConn), .sc (.int .i64 s.fGen), a, b, c, .sl (3 + B.2.length) 0 s.fIn.length 1]) = some [.sc (.string s.fClient), .sc (.int .i64 s.fBorn), .sc (.bool s.fClean), .sc (.int .i64 s.fConn), .sc (.int .i64 s.fGen), a, b, c, .sl (3 + B.2.length) 0 s.fIn.length 1] := by
  show (if _ then _ else none) = _
  rw [if_pos hlf]
 rw [st_at 9 1 0 _ ⟨zzSess, true, true⟩ _ _ _ rfl hcc rfl (by decide) rfl]
 refine w_ldA (ds := [.sc (.string s.fClient), .sc (.int .i64 s.fBorn), .sc (.bool s.fClean), .sc (.int .i64 s.fConn), .sc (.int .i64 s.fGen), a, b, c, .sl (3 + B.2.length) 0 s.fIn.length 1]) (cs := [.sc (.string s.fClient), .sc (.int .i64 s.fBorn), .sc (.bool s.fClean), .sc (.int .i64 s.fConn), .sc (.int .i64 s.fGen), a, b, c, .sl (3 + B.2.length) 0 s.fIn.length 1]) rfl (Nat.le_of_ble_eq_true rfl) rfl ?_
 have lB : ∀ (b0 b1 b2 : Blk) (X : List Blk), ownL (ownT ti0 E0.tp (b0 :: b1 :: b2 :: (B.2 ++ X)) 7) ctyOut B.1 = some (encOut s.fO, List.range' 3 B.2.length) := by
  intro b0 b1 b2 X
  have := own_instL (H := b0 :: b1 :: b2 :: (B.2 ++ X)) (fun ty t N h h' _ => own_inst 7 ty t N h h') ctyOut (encOut s.fO) 3 (okWOut 4 s.fO) (by
   rw [show instL ti0 E0.tp 3 ctyOut (encOut s.fO) = B from hB]
   exact Lies_in [b0, b1, b2] B.2 X) (instL_live _ _ _)
  rw [show instL ti0 E0.tp 3 ctyOut (encOut s.fO) = B from hB] at this
  exact this
 have key := fun (b0 b1 b2 : Blk) => own_sess (H := b0 :: b1 :: b2 :: (B.2 ++ [⟨s.fIn.map fun z => .sc (.int .i64 z), true, true⟩])) (N2 := 3 + B.2.length) (lB b0 b1 b2 _) hBl (by
  have := get_at (b0 :: b1 :: b2 :: B.2) ⟨s.fIn.map fun z => .sc (.int .i64 z), true, true⟩ []
  rw [List.length_cons, List.length_cons, List.length_cons, show B.2.length + 1 + 1 + 1 = 3 + B.2.length by omega] at this
  exact this) (Nat.le_refl _)
 rw [habc] at key
 have hfin := key ⟨encSess s, true, true⟩ ⟨[.sc (.string s.fClient), .sc (.int .i64 s.fBorn), .sc (.bool s.fClean), .sc (.int .i64 s.fConn), .sc (.int .i64 s.fGen), a, b, c, .sl (3 + B.2.length) 0 s.fIn.length 1], true, true⟩ ⟨[.sc (.string s.fClient), .sc (.int .i64 s.fBorn), .sc (.bool s.fClean), .sc (.int .i64 s.fConn), .sc (.int .i64 s.fGen), a, b, c, .sl (3 + B.2.length) 0 s.fIn.length 1], true, true⟩
 exact hfin
end Go.Proofs.YtdameggfgnpehaaGreatDoor.Abs
set_option linter.unusedVariables false
set_option linter.unusedSimpArgs false
namespace Go.Proofs.YtdameggfgnpehaaGreatDoor.Abs
open Go
section
variable {ti : Nat → Option TI} {tp : Nat → Option (List Nat)} {H : Heap}
theorem ownL_dep {d d' : Nat} (hd : ∀ ty x t I, ownT ti tp H d ty x = some (t, I) → okW ti tp d' ty t → ownT ti tp H d' ty x = some (t, I)) : ∀ (ts : List Nat) (xs cells : List AV) (I : List Nat), ownL (ownT ti tp H d) ts xs = some (cells, I) → okLW (okW ti tp d') ts cells → ownL (ownT ti tp H d') ts xs = some (cells, I)
 | ts, [], cells, I, h, _ => by
  obtain ⟨rfl, e⟩ := ownL_nil h
  cases e
  rfl
 | [], _ :: _, _, _, h, _ => by simp [ownL] at h
 | t :: ts, x :: xs, cells, I, h, ho => by
  obtain ⟨a, b, h1, h2, e⟩ := ownL_cons h
  cases e
  have e1 := hd t x a.1 a.2 h1 ho.1
  have e2 := ownL_dep hd ts xs b.1 b.2 h2 ho.2
  rw [ownL, e1, Option.bind_some, e2]
  rfl
theorem own_dep : ∀ (d d' ty : Nat) (x t : AV) (I : List Nat), ownT ti tp H d ty x = some (t, I) → okW ti tp d' ty t → ownT ti tp H d' ty x = some (t, I)
 | 0, _, _, _, _, _, h, _ => by simp [ownT] at h
 | d + 1, 0, _, _, _, _, _, ho => by cases ho
 | d + 1, d' + 1, ty, x, t, I, h, ho => by
  cases x with
  | sc v =>
   obtain ⟨rfl, rfl⟩ : AV.sc v = t ∧ [] = I := by simpa [ownT] using h
   rfl
  | nl =>
   obtain ⟨rfl, rfl⟩ : AV.ro 0 [] = t ∧ [] = I := by simpa [ownT] using h
   rfl
  | sl id off n z =>
   rw [ownT_sl] at h ⊢
   simp only [Option.bind_eq_some_iff] at h
   obtain ⟨i, h1, j, h2, h3⟩ := h
   split at h3
   case isFalse => cases h3
   rename_i hz
   split at h3
   case isFalse => cases h3
   rename_i ha
   simp only [Option.bind_eq_some_iff] at h3
   obtain ⟨cs, h4, q, h5, h6⟩ := h3
   obtain ⟨rfl, rfl⟩ : AV.ro n q.1 = t ∧ id :: q.2 = I := by simpa using h6
   obtain ⟨i', j', g1, g2, g3, g4⟩ := ho
   rw [h1] at g1
   cases g1
   rw [h2] at g2
   cases g2
   have e3 := ownL_dep (fun ty x t I h ho => own_dep d d' ty x t I h ho) _ _ _ _ h5 g4
   rw [hz] at h4
   simp only [h1, h2, Option.bind_some, hz, if_true, ha, h4, e3]
  | agg cs =>
   rw [ownT_agg] at h ⊢
   simp only [Option.bind_eq_some_iff] at h
   obtain ⟨i, h1, q, h2, h3⟩ := h
   obtain ⟨rfl, rfl⟩ : AV.agg q.1 = t ∧ q.2 = I := by simpa using h3
   obtain ⟨i', g1, g2⟩ := ho
   rw [h1] at g1
   cases g1
   have e3 := ownL_dep (fun ty x t I h ho => own_dep d d' ty x t I h ho) _ _ _ _ h2 g2
   rw [h1, Option.bind_some, e3]
   rfl
  | tup cs =>
   rw [ownT_tup] at h ⊢
   simp only [Option.bind_eq_some_iff] at h
   obtain ⟨i, h1, q, h2, h3⟩ := h
   obtain ⟨rfl, rfl⟩ : AV.tup q.1 = t ∧ q.2 = I := by simpa using h3
   obtain ⟨i', g1, g2⟩ := ho
   rw [h1] at g1
   cases g1
   have e3 := ownL_dep (fun ty x t I h ho => own_dep d d' ty x t I h ho) _ _ _ _ h2 g2
   rw [h1, Option.bind_some, e3]
   rfl
  | _ => simp [ownT] at h
theorem ownL_view {d : Nat} (hd : ∀ ty x t I, ownT ti tp H d ty x = some (t, I) → viewV H d x = some t) : ∀ (ts : List Nat) (xs cells : List AV) (I : List Nat), ownL (ownT ti tp H d) ts xs = some (cells, I) → xs.mapM (viewV H d) = some cells
 | ts, [], cells, I, h => by
  obtain ⟨rfl, e⟩ := ownL_nil h
  cases e
  rfl
 | [], _ :: _, _, _, h => by simp [ownL] at h
 | t :: ts, x :: xs, cells, I, h => by
  obtain ⟨a, b, h1, h2, e⟩ := ownL_cons h
  cases e
  simp only [List.mapM_cons, hd t x a.1 a.2 h1, ownL_view hd ts xs b.1 b.2 h2, Option.pure_def, Option.bind_eq_bind, Option.bind_some]
theorem own_view : ∀ (d ty : Nat) (x t : AV) (I : List Nat), ownT ti tp H d ty x = some (t, I) → viewV H d x = some t
 | 0, _, _, _, _, h => by simp [ownT] at h
 | d + 1, ty, x, t, I, h => by
  have ih := ownL_view (ti := ti) (tp := tp) (H := H) (d := d) (fun ty x t I h => own_view d ty x t I h)
  cases x with
  | sc v =>
   obtain ⟨rfl, rfl⟩ : AV.sc v = t ∧ [] = I := by simpa [ownT] using h
   rfl
  | nl =>
   obtain ⟨rfl, rfl⟩ : AV.ro 0 [] = t ∧ [] = I := by simpa [ownT] using h
   rfl
  | sl id off n z =>
   rw [ownT_sl] at h
   simp only [Option.bind_eq_some_iff] at h
   obtain ⟨i, h1, j, h2, h3⟩ := h
   split at h3
   case isFalse => cases h3
   split at h3
   case isFalse => cases h3
   simp only [Option.bind_eq_some_iff] at h3
   obtain ⟨cs, h4, q, h5, h6⟩ := h3
   obtain ⟨rfl, rfl⟩ : AV.ro n q.1 = t ∧ id :: q.2 = I := by simpa using h6
   rw [viewV_sl, h4, Option.bind_some, ih _ _ _ _ h5]
   rfl
  | agg cs =>
   rw [ownT_agg] at h
   simp only [Option.bind_eq_some_iff] at h
   obtain ⟨i, h1, q, h2, h3⟩ := h
   obtain ⟨rfl, rfl⟩ : AV.agg q.1 = t ∧ q.2 = I := by simpa using h3
   rw [viewV_agg, ih _ _ _ _ h2]
   rfl
  | tup cs =>
   rw [ownT_tup] at h
   simp only [Option.bind_eq_some_iff] at h
   obtain ⟨i, h1, q, h2, h3⟩ := h
   obtain ⟨rfl, rfl⟩ : AV.tup q.1 = t ∧ q.2 = I := by simpa using h3
   show (cs.mapM (viewV H d)).bind _ = _
   rw [ih _ _ _ _ h2]
   rfl
  | _ => simp [ownT] at h
theorem okLW_mono {f g : Nat → AV → Prop} (hfg : ∀ t x, f t x → g t x) : ∀ {ts : List Nat} {cs : List AV}, okLW f ts cs → okLW g ts cs
 | [], [], h => h
 | _ :: ts, _ :: cs, h => ⟨hfg _ _ h.1, okLW_mono hfg h.2⟩
theorem okW_mono : ∀ (d ty : Nat) (x : AV), okW ti tp d ty x → okW ti tp (d + 1) ty x
 | 0, _, _, h => by cases h
 | d + 1, ty, x, h => by
  cases x with
  | sc v => trivial
  | ro n cells =>
   obtain ⟨i, j, h1, h2, h3, h4⟩ := h
   exact ⟨i, j, h1, h2, h3, okLW_mono (okW_mono d) h4⟩
  | agg cs =>
   obtain ⟨i, h1, h2⟩ := h
   exact ⟨i, h1, okLW_mono (okW_mono d) h2⟩
  | tup cs =>
   obtain ⟨i, h1, h2⟩ := h
   exact ⟨i, h1, okLW_mono (okW_mono d) h2⟩
  | _ => cases h
theorem okW_le {d d' ty : Nat} {x : AV} (h : okW ti tp d ty x) (hd : d ≤ d') : okW ti tp d' ty x := by
 induction hd with
 | refl => exact h
 | step _ ih => exact okW_mono _ _ _ ih
theorem okLW_le {d d' : Nat} {ts : List Nat} {cs : List AV} (h : okLW (okW ti tp d) ts cs) (hd : d ≤ d') : okLW (okW ti tp d') ts cs := okLW_mono (fun _ _ h => okW_le h hd) h
end
inductive Ck where
 | blk (id : Nat) (cs : List AV) (a : Bool)
 | own (x : AV) (ty : Nat) (t : AV)
def CkOk (H : Heap) (c : Ck) (I : List Nat) : Prop :=
 match c with
 | .blk id cs a => I = [id] ∧ H[id]? = some ⟨cs, true, a⟩
 | .own x ty t => isLeaf x = true ∧ okW ti0 E0.tp 6 ty t ∧ ownT ti0 E0.tp H 6 ty x = some (t, I)
def SepI (H : Heap) : List Ck → List Nat → Prop
 | [], I => I = []
 | c :: L, I => ∃ J R, I = J ++ R ∧ CkOk H c J ∧ SepI H L R
def Sep (H : Heap) (L : List Ck) : Prop := ∃ I, SepI H L I ∧ I.Nodup
inductive Pk : List Ck → Ck → List Ck → Prop
 | here {c : Ck} {L : List Ck} : Pk (c :: L) c L
 | there {a c : Ck} {L L' : List Ck} : Pk L c L' → Pk (a :: L) c (a :: L')
section
variable {H H' : Heap} {L L' L1 L2 : List Ck} {c : Ck} {I J R : List Nat}
theorem sep_nil : Sep H [] := ⟨[], rfl, List.nodup_nil⟩
theorem CkOk.frame (h : CkOk H c I) (hs : ∀ i ∈ I, H'[i]? = H[i]?) : CkOk H' c I := by
 cases c with
 | blk id cs a =>
  obtain ⟨rfl, h2⟩ := h
  exact ⟨rfl, by rw [hs id (by simp)]; exact h2⟩
 | own x ty t => exact ⟨h.1, h.2.1, own_frame 6 ty x _ h.2.2 hs⟩
theorem CkOk.lt (h : CkOk H c I) : ∀ i ∈ I, i < H.length := by
 cases c with
 | blk id cs a =>
  obtain ⟨rfl, h2⟩ := h
  intro i hi
  rw [List.mem_singleton] at hi
  subst hi
  exact (List.getElem?_eq_some_iff.1 h2).1
 | own x ty t => exact own_lt 6 ty x _ h.2.2
theorem SepI.frame : ∀ {L : List Ck} {I : List Nat}, SepI H L I → (∀ i ∈ I, H'[i]? = H[i]?) → SepI H' L I
 | [], I, h, _ => h
 | c :: L, I, h, hs => by
  obtain ⟨J, R, rfl, h1, h2⟩ := h
  exact ⟨J, R, rfl, h1.frame fun i hi => hs i (List.mem_append_left _ hi), h2.frame fun i hi => hs i (List.mem_append_right _ hi)⟩
theorem SepI.lt : ∀ {L : List Ck} {I : List Nat}, SepI H L I → ∀ i ∈ I, i < H.length
 | [], I, h => by
  cases (show I = [] from h)
  intro i hi
  cases hi
 | c :: L, I, h => by
  obtain ⟨J, R, rfl, h1, h2⟩ := h
  intro i hi
  rcases List.mem_append.1 hi with hi | hi
  ·exact h1.lt i hi
  ·exact h2.lt i hi
theorem SepI.grow (h : SepI H L I) (X : List Blk) : SepI (H ++ X) L I := h.frame fun i hi => List.getElem?_append_left (h.lt i hi)
theorem Sep.grow (h : Sep H L) (X : List Blk) : Sep (H ++ X) L := by
 obtain ⟨I, h1, h2⟩ := h
 exact ⟨I, h1.grow X, h2⟩
theorem Sep.new {X : List Blk} (hs : Sep H L) (hc : CkOk (H ++ X) c J) (hJ : J.Nodup) (hge : ∀ i ∈ J, H.length ≤ i) : Sep (H ++ X) (c :: L) := by
 obtain ⟨I, h1, h2⟩ := hs
 refine ⟨J ++ I, ⟨J, I, rfl, hc, h1.grow X⟩, List.nodup_append.2 ⟨hJ, h2, fun a ha b hb e => ?_⟩⟩
 have := h1.lt b hb
 have := hge a ha
 omega
theorem Pk.sepI : ∀ {L L' : List Ck} {c : Ck} {I : List Nat}, Pk L c L' → SepI H L I → ∃ J R, CkOk H c J ∧ SepI H L' R ∧ I.Perm (J ++ R)
 | _, _, _, _, .here, h => by
  obtain ⟨J, R, rfl, h1, h2⟩ := h
  exact ⟨J, R, h1, h2, List.Perm.refl _⟩
 | _, _, _, _, .there p, h => by
  obtain ⟨J, R, rfl, h1, h2⟩ := h
  obtain ⟨J', R', g1, g2, g3⟩ := p.sepI h2
  refine ⟨J', J ++ R', g1, ⟨J, R', rfl, h1, g2⟩, ?_⟩
  refine (List.Perm.append_left J g3).trans ?_
  rw [← List.append_assoc, ← List.append_assoc]
  exact List.Perm.append_right R' List.perm_append_comm
theorem Sep.pick (h : Sep H L) (p : Pk L c L') : Sep H (c :: L') := by
 obtain ⟨I, h1, h2⟩ := h
 obtain ⟨J, R, g1, g2, g3⟩ := p.sepI h1
 exact ⟨J ++ R, ⟨J, R, rfl, g1, g2⟩, g3.nodup_iff.1 h2⟩
theorem Sep.tail (h : Sep H (c :: L)) : Sep H L := by
 obtain ⟨I, ⟨J, R, rfl, h1, h2⟩, h3⟩ := h
 exact ⟨R, h2, (List.nodup_append.1 h3).2.1⟩
theorem Sep.blk {id : Nat} {cs : List AV} {a : Bool} (h : Sep H L) (p : Pk L (.blk id cs a) L') : H[id]? = some ⟨cs, true, a⟩ := by
 obtain ⟨I, ⟨J, R, rfl, h1, h2⟩, h3⟩ := h.pick p
 exact h1.2
theorem Sep.put {id : Nat} {cs : List AV} {a : Bool} (h : Sep H L) (p : Pk L (.blk id cs a) L') (cs' : List AV) (a' : Bool) : Sep (H.set id ⟨cs', true, a'⟩) (.blk id cs' a' :: L') := by
 obtain ⟨I, ⟨J, R, rfl, ⟨rfl, h1⟩, h2⟩, h3⟩ := h.pick p
 have hn := (List.nodup_cons.1 h3).1
 have hl := (List.getElem?_eq_some_iff.1 h1).1
 refine ⟨[id] ++ R, ⟨[id], R, rfl, ⟨rfl, by rw [List.getElem?_set_self hl]⟩, h2.frame fun i hi => ?_⟩, h3⟩
 rw [List.getElem?_set_ne]
 rintro rfl
 exact hn hi
theorem Sep.own {x t : AV} {ty : Nat} (h : Sep H L) (p : Pk L (.own x ty t) L') : isLeaf x = true ∧ okW ti0 E0.tp 6 ty t ∧ ∃ I, ownT ti0 E0.tp H 6 ty x = some (t, I) ∧ I.Nodup := by
 obtain ⟨I, ⟨J, R, rfl, ⟨h0, h1, h1'⟩, h2⟩, h3⟩ := h.pick p
 exact ⟨h0, h1, J, h1', (List.nodup_append.1 h3).1⟩
theorem Sep.nl {ty : Nat} (h : Sep H L) (hty : ∃ i j, ti0 ty = some i ∧ ti0 i.elem = some j) : Sep H (.own .nl ty (.ro 0 []) :: L) := by
 obtain ⟨I, h1, h2⟩ := h
 obtain ⟨i, j, e1, e2⟩ := hty
 exact ⟨[] ++ I, ⟨[], I, rfl, ⟨rfl, ⟨i, j, e1, e2, by simp, by simp [okLW]⟩, rfl⟩, h1⟩, h2⟩
inductive OwnR : List Ck → List AV → List Nat → List AV → List Ck → Prop
 | nil {L : List Ck} : OwnR L [] [] [] L
 | sc {L L' : List Ck} {v : Value} {raw cells : List AV} {ty : Nat} {tys : List Nat} : OwnR L raw tys cells L' → OwnR L (.sc v :: raw) (ty :: tys) (.sc v :: cells) L'
 | nl {L L' : List Ck} {raw cells : List AV} {ty : Nat} {tys : List Nat} : OwnR L raw tys cells L' → OwnR L (.nl :: raw) (ty :: tys) (.ro 0 [] :: cells) L'
 | own {L L1 L' : List Ck} {x t : AV} {raw cells : List AV} {ty : Nat} {tys : List Nat} : Pk L (.own x ty t) L1 → OwnR L1 raw tys cells L' → OwnR L (x :: raw) (ty :: tys) (t :: cells) L'
 | agg {L L1 L' : List Ck} {cs ts raw cells : List AV} {ty : Nat} {tys cty : List Nat} : (∃ i, ti0 ty = some i ∧ i.cty = cty) → OwnR L cs cty ts L1 → OwnR L1 raw tys cells L' → OwnR L (.agg cs :: raw) (ty :: tys) (.agg ts :: cells) L'
theorem OwnR.sound : ∀ {L L' : List Ck} {raw cells : List AV} {tys : List Nat} {I : List Nat}, OwnR L raw tys cells L' → SepI H L I → ∀ d, okLW (okW ti0 E0.tp d) tys cells → ∃ J R, ownL (ownT ti0 E0.tp H d) tys raw = some (cells, J) ∧ SepI H L' R ∧ I.Perm (J ++ R)
 | _, _, _, _, _, I, .nil, h, d, _ => ⟨[], I, rfl, h, List.Perm.refl _⟩
 | _, _, _, _, _, I, .sc q, h, d + 1, ho => by
  obtain ⟨J, R, h1, h2, h3⟩ := q.sound h (d + 1) ho.2
  refine ⟨J, R, ?_, h2, h3⟩
  rw [ownL, ownT_sc, Option.bind_some, h1]
  rfl
 | _, _, _, _, _, I, .nl q, h, d + 1, ho => by
  obtain ⟨J, R, h1, h2, h3⟩ := q.sound h (d + 1) ho.2
  refine ⟨J, R, ?_, h2, h3⟩
  rw [ownL, show ownT ti0 E0.tp H (d + 1) _ .nl = some (.ro 0 [], []) from rfl, Option.bind_some, h1]
  rfl
 | _, _, _, _, _, I, .own p q, h, d, ho => by
  obtain ⟨J1, R1, g1, g2, g3⟩ := p.sepI h
  obtain ⟨J, R, h1, h2, h3⟩ := q.sound g2 d ho.2
  have e := own_dep 6 d _ _ _ _ g1.2.2 ho.1
  refine ⟨J1 ++ J, R, ?_, h2, ?_⟩
  ·rw [ownL, e, Option.bind_some, h1]
   rfl
  ·refine g3.trans ?_
   rw [List.append_assoc]
   exact List.Perm.append_left J1 h3
 | _, _, _, _, _, I, .agg hty p q, h, d + 1, ho => by
  obtain ⟨i, e1, rfl⟩ := hty
  obtain ⟨i', g1, g2⟩ := ho.1
  rw [e1] at g1
  cases g1
  obtain ⟨J1, R1, a1, a2, a3⟩ := p.sound h (d + 1) (okLW_le g2 (Nat.le_succ d))
  obtain ⟨J, R, h1, h2, h3⟩ := q.sound a2 (d + 1) ho.2
  have a1' := ownL_dep (fun ty x t I h ho => own_dep (d + 1) d ty x t I h ho) _ _ _ _ a1 g2
  refine ⟨J1 ++ J, R, ?_, h2, ?_⟩
  ·rw [ownL, ownT_agg, e1, Option.bind_some, a1', Option.bind_some, Option.bind_some, h1]
   rfl
  ·refine a3.trans ?_
   rw [List.append_assoc]
   exact List.Perm.append_left J1 h3
 | _, _, _, _, _, I, .sc q, h, 0, ho => by cases ho.1
 | _, _, _, _, _, I, .nl q, h, 0, ho => by cases ho.1
 | _, _, _, _, _, I, .agg _ p q, h, 0, ho => by cases ho.1
end
end Go.Proofs.YtdameggfgnpehaaGreatDoor.Abs
set_option linter.unusedVariables false
set_option linter.unusedSimpArgs false
namespace Go.Proofs.YtdameggfgnpehaaGreatDoor.Abs
open Go
def Gd {β : Type} (G : Option β → Prop) (o : Option β) : Prop := G o
section
variable {β : Type} {n : Nat} {H : Heap} {L L' L1 L2 : List Ck} {G : Option β → Prop} {K : AV → Option β} {KH : AV → Heap → Option β}
theorem g_congr {a b : Option β} (e : a = b) (h : Gd G b) : Gd G a := by rw [e]; exact h
theorem g_new {cs : List AV} (hs : Sep H L) (h : ∀ i H', Sep H' (.blk i cs true :: L) → Gd G (KH (.ptr i 0) H')) : Gd G (pNew cs H fun x H => KH x H) :=
 h _ _ (hs.new (J := [H.length]) ⟨rfl, by rw [List.getElem?_append_right (Nat.le_refl _), Nat.sub_self]; rfl⟩ (by simp) (by simp))
theorem g_newSl {k w : Nat} {cs : List AV} {a : Bool} (hs : Sep H L) (h : ∀ i H', Sep H' (.blk i cs a :: L) → Gd G (KH (.sl i 0 k w) H')) : Gd G (pNewSl k w cs a H fun x H => KH x H) :=
 h _ _ (hs.new (J := [H.length]) ⟨rfl, by rw [List.getElem?_append_right (Nat.le_refl _), Nat.sub_self]; rfl⟩ (by simp) (by simp))
theorem g_box {x : AV} {cs : List AV} (hs : Sep H L) (hc : cellsA x = some cs) (h : ∀ i H', Sep H' (.blk i cs true :: L) → Gd G (KH (.ptr i 0) H')) : Gd G (pBox x H fun x H => KH x H) := by
 refine g_congr (b := pNew cs H fun x H => KH x H) ?_ (g_new hs h)
 show (cellsA x).bind _ = _
 rw [hc]
 rfl
theorem cells_fl {cs : List AV} (h : cs.all isFl = true) : cellsA (.agg cs) = some cs := fl_cells h
theorem cells_agg {cs : List AV} (h : cs.all isLeaf = true) : cellsA (.agg cs) = some cs := by
 show (if cs.all isLeaf then some cs else none) = _
 rw [if_pos h]
theorem lf_c {x : AV} {xs : List AV} (h : isLeaf x = true) (hs : xs.all isLeaf = true) : (x :: xs).all isLeaf = true := by
 rw [List.all_cons, h, hs]
 rfl
theorem cells_leaf {x : AV} (h : isLeaf x = true) : cellsA x = some [x] := by
 cases x <;> simp_all [cellsA, isLeaf]
theorem g_ld {i o : Nat} {cs : List AV} {a : Bool} {c : AV} (hs : Sep H L) (hp : Pk L (.blk i cs a) L1) (hc : cs[o]? = some c) (h : Gd G (K c)) : Gd G (pLoad false 1 (.ptr i o) H fun x => K x) := by
 refine g_congr ?_ h
 obtain ⟨hlt, he⟩ := List.getElem?_eq_some_iff.1 hc
 have e : rdCells H i o 1 = some [c] := by
  simp only [rdCells, hs.blk hp, if_true]
  rw [if_pos (by omega), List.drop_eq_getElem_cons hlt, he]
  rfl
 exact ldF e _
theorem g_ldA {i o w : Nat} {cs ds : List AV} {a : Bool} (hs : Sep H L) (hp : Pk L (.blk i cs a) L1) (hl : o + w ≤ cs.length) (hc : (cs.drop o).take w = ds) (h : Gd G (K (.agg ds))) : Gd G (pLoad true w (.ptr i o) H fun x => K x) := by
 refine g_congr ?_ h
 have e : rdCells H i o w = some ds := by
  simp only [rdCells, hs.blk hp, if_true]
  rw [if_pos hl, hc]
 exact ldT e _
theorem g_ldW {i w : Nat} {cs : List AV} {a : Bool} (hs : Sep H L) (hp : Pk L (.blk i cs a) L1) (hl : cs.length = w) (h : Gd G (K (.agg cs))) : Gd G (pLoad true w (.ptr i 0) H fun x => K x) :=
 g_ldA hs hp (by omega) (by rw [List.drop_zero, ← hl, List.take_length]) h
theorem g_st {i o w : Nat} {cs cs' ds : List AV} {a : Bool} {y : AV} {KS : Heap → Option β} (hs : Sep H L) (hp : Pk L (.blk i cs a) L1) (hy : cellsA y = some ds) (hd : ds.length = w) (hl : o + w ≤ cs.length) (hc : splice cs o ds = cs') (h : ∀ H', Sep H' (.blk i cs' a :: L1) → Gd G (KS H')) : Gd G (pStore w (.ptr i o) y H fun H => KS H) := by
 have hb := hs.blk hp
 refine g_congr (st_at w i o y ⟨cs, true, a⟩ ds H _ hb hy hd hl rfl) ?_
 have := hs.put hp cs' a
 rw [← hc] at this
 exact h _ (by rw [← hc]; exact this)
theorem g_ldR {cells : List AV} {c : AV} (hc : cells[0]? = some c) (h : Gd G (K c)) : Gd G (pLoad false 1 (.rp cells) H fun x => K x) := by
 cases cells with
 | nil => cases hc
 | cons x xs =>
  obtain rfl : x = c := by simpa using hc
  refine g_congr (ld1_rp x xs H _) h
theorem g_ldAR {w : Nat} {cells ds : List AV} (hl : w ≤ cells.length) (hc : cells.take w = ds) (h : Gd G (K (.agg ds))) : Gd G (pLoad true w (.rp cells) H fun x => K x) := by
 refine g_congr ?_ h
 simp only [pLoad, hl, if_true, hc]
theorem g_ldE {w : Nat} {cs rest : List AV} (hw : cs.length = w) (h : Gd G (K (.agg cs))) : Gd G (pLoad true w (.rp (cs ++ rest)) H fun x => K x) := g_congr (ld_rp w cs rest H _ hw) h
theorem g_fadr {o i off o' : Nat} (e : off + o = o') (h : Gd G (K (.ptr i o'))) : Gd G (pFadr o (.ptr i off) fun x => K x) := by subst e; exact h
theorem g_fadrR {o : Nat} {cells : List AV} (h : Gd G (K (.rp (cells.drop o)))) : Gd G (pFadr o (.rp cells) fun x => K x) := h
theorem g_nil {id off : Nat} (h : Gd G (K (.ptr id off))) : Gd G (pNil (.ptr id off) fun t => K t) := h
theorem g_nilR {cs : List AV} (h : Gd G (K (.rp cs))) : Gd G (pNil (.rp cs) fun t => K t) := h
theorem g_fld {o : Nat} {cs : List AV} {c : AV} (hc : cs[o]? = some c) (h : Gd G (K c)) : Gd G (pFld false o 1 (.agg cs) fun x => K x) := by
 refine g_congr ?_ h
 obtain ⟨hlt, he⟩ := List.getElem?_eq_some_iff.1 hc
 simp only [pFld]
 rw [if_pos (by omega), List.drop_eq_getElem_cons hlt, he]
 rfl
theorem g_fldA {o w : Nat} {cs ds : List AV} (hl : o + w ≤ cs.length) (hc : (cs.drop o).take w = ds) (h : Gd G (K (.agg ds))) : Gd G (pFld true o w (.agg cs) fun x => K x) := by
 refine g_congr ?_ h
 simp only [pFld]
 rw [if_pos hl, hc]
 rfl
theorem g_fill {zs cs : List AV} {ps : List (Nat × Nat × AV)} {KL : List AV → Option β} (hf : fillA zs ps = some cs) (h : Gd G (KL cs)) : Gd G ((fillA zs ps).bind fun c => KL c) := by
 rw [hf]
 exact h
theorem g_extr {i : Nat} {vs : List AV} {v : AV} (hv : vs[i]? = some v) (h : Gd G (K v)) : Gd G (pExtr (.tup vs) i fun x => K x) := by
 refine g_congr ?_ h
 show (vs[i]?).bind _ = _
 rw [hv]
 rfl
theorem g_len {m : Nat} {cs : List AV} (h : Gd G (K (.sc (.int .i64 m)))) : Gd G (pLen (.ro m cs) fun x => K x) := h
theorem g_lenS {s : ByteArray} (h : Gd G (K (.sc (.int .i64 s.size)))) : Gd G (pLenS (.sc (.string s)) fun x => K x) := h
theorem g_lenN (h : Gd G (K (.sc (.int .i64 (0 : Nat))))) : Gd G (pLen .nl fun x => K x) := h
theorem g_lenL {i o m w : Nat} (h : Gd G (K (.sc (.int .i64 m)))) : Gd G (pLen (.sl i o m w) fun x => K x) := h
theorem len_own {d ty m : Nat} {x : AV} {cells : List AV} {I : List Nat} (h : ownT ti0 E0.tp H d ty x = some (.ro m cells, I)) : lenA x = some m := by
 cases d with
 | zero => simp [ownT] at h
 | succ d =>
  cases x with
  | sc v => simp [ownT] at h
  | nl =>
   have := (Option.some.inj h)
   simp only [Prod.mk.injEq, AV.ro.injEq] at this
   rw [← this.1.1]
   rfl
  | sl id off n z =>
   rw [ownT_sl] at h
   simp only [Option.bind_eq_some_iff] at h
   obtain ⟨i, h1, j, h2, h3⟩ := h
   split at h3
   case isFalse => cases h3
   split at h3
   case isFalse => cases h3
   simp only [Option.bind_eq_some_iff] at h3
   obtain ⟨cs, h4, q, h5, h6⟩ := h3
   obtain ⟨h7, -⟩ : AV.ro n q.1 = .ro m cells ∧ _ := by simpa only [Prod.mk.injEq, Option.some.injEq] using h6
   cases h7
   rfl
  | agg cs =>
   rw [ownT_agg] at h
   simp only [Option.bind_eq_some_iff] at h
   obtain ⟨i, h1, q, h2, h3⟩ := h
   simp at h3
  | tup cs =>
   rw [ownT_tup] at h
   simp only [Option.bind_eq_some_iff] at h
   obtain ⟨i, h1, q, h2, h3⟩ := h
   simp at h3
  | _ => simp [ownT] at h
theorem g_lenO {x : AV} {ty m : Nat} {cells : List AV} (hs : Sep H L) (hp : Pk L (.own x ty (.ro m cells)) L1) (h : Gd G (K (.sc (.int .i64 m)))) : Gd G (pLen x fun x => K x) := by
 obtain ⟨_, _, I, e, _⟩ := hs.own hp
 have hl := len_own e
 refine g_congr ?_ h
 have key : ∀ (x : AV), (∀ v, x ≠ .sc v) → lenA x = some m → pLen x K = K (.sc (.int .i64 m)) := by
  intro x hx hl
  cases x with
  | sc v => exact absurd rfl (hx v)
  | nl => cases hl; rfl
  | ro n cs => cases hl; rfl
  | sl a b c d => cases hl; rfl
  | _ => cases hl
 refine key x (fun v hv => ?_) hl
 subst hv
 simp [ownT] at e
theorem g_bin {op : BinOp} {x y v : AV} (e : ∀ k : AV → Option β, pBin op x y k = k v) (h : Gd G (K v)) : Gd G (pBin op x y fun t => K t) := g_congr (e _) h
theorem g_binB {op : BinOp} {x y v : AV} (e : ∀ k : AV → Option β, pBinB op x y k = k v) (h : Gd G (K v)) : Gd G (pBinB op x y fun t => K t) := g_congr (e _) h
theorem g_eql {a b : Int} (h : Gd G (K (.sc (.bool (decide (a = b)))))) : Gd G (pBin .eql (.sc (.int .i64 a)) (.sc (.int .i64 b)) fun t => K t) := h
theorem g_neq {a b : Int} (h : Gd G (K (.sc (.bool (!decide (a = b)))))) : Gd G (pBin .neq (.sc (.int .i64 a)) (.sc (.int .i64 b)) fun t => K t) := h
theorem g_lss {a b : Int} (h : Gd G (K (.sc (.bool (decide (a < b)))))) : Gd G (pBin .lss (.sc (.int .i64 a)) (.sc (.int .i64 b)) fun t => K t) := h
theorem g_leq {a b : Int} (h : Gd G (K (.sc (.bool (decide (a ≤ b)))))) : Gd G (pBin .leq (.sc (.int .i64 a)) (.sc (.int .i64 b)) fun t => K t) := h
theorem g_gtr {a b : Int} (h : Gd G (K (.sc (.bool (decide (b < a)))))) : Gd G (pBin .gtr (.sc (.int .i64 a)) (.sc (.int .i64 b)) fun t => K t) := h
theorem g_geq {a b : Int} (h : Gd G (K (.sc (.bool (decide (b ≤ a)))))) : Gd G (pBin .geq (.sc (.int .i64 a)) (.sc (.int .i64 b)) fun t => K t) := h
theorem g_add {a b : Int} (h0 : -9223372036854775808 ≤ a + b) (h1 : a + b ≤ 9223372036854775807) (h : Gd G (K (.sc (.int .i64 (a + b))))) : Gd G (pBin .add (.sc (.int .i64 a)) (.sc (.int .i64 b)) fun t => K t) := by
 refine g_congr ?_ h
 show K (.sc (.int .i64 (IntKind.i64.wrap (a + b)))) = _
 rw [wrap64 _ h0 h1]
theorem g_sub {a b : Int} (h0 : -9223372036854775808 ≤ a - b) (h1 : a - b ≤ 9223372036854775807) (h : Gd G (K (.sc (.int .i64 (a - b))))) : Gd G (pBin .sub (.sc (.int .i64 a)) (.sc (.int .i64 b)) fun t => K t) := by
 refine g_congr ?_ h
 show K (.sc (.int .i64 (IntKind.i64.wrap (a - b)))) = _
 rw [wrap64 _ h0 h1]
theorem g_mul {a b : Int} (h0 : -9223372036854775808 ≤ a * b) (h1 : a * b ≤ 9223372036854775807) (h : Gd G (K (.sc (.int .i64 (a * b))))) : Gd G (pBin .mul (.sc (.int .i64 a)) (.sc (.int .i64 b)) fun t => K t) := by
 refine g_congr ?_ h
 show K (.sc (.int .i64 (IntKind.i64.wrap (a * b)))) = _
 rw [wrap64 _ h0 h1]
theorem g_eqlS {a b : ByteArray} (h : Gd G (K (.sc (.bool (a.toList == b.toList))))) : Gd G (pBin .eql (.sc (.string a)) (.sc (.string b)) fun t => K t) := h
theorem g_neqS {a b : ByteArray} (h : Gd G (K (.sc (.bool (!(a.toList == b.toList)))))) : Gd G (pBin .neq (.sc (.string a)) (.sc (.string b)) fun t => K t) := h
theorem g_not {b : Bool} (h : Gd G (K (.sc (.bool (!b))))) : Gd G (pUn .not (.sc (.bool b)) fun t => K t) := h
theorem g_letJ {α : Sort _} {γ : Type} {G : Option γ → Prop} {x : α} {f : α → Option γ} (h : Gd G (f x)) : Gd G (letJ x f) := h
theorem g_cT {b : Bool} {x y : Option β} (hb : b = true) (h : Gd G x) : Gd G (pCond (.sc (.bool b)) x y) := by subst hb; exact h
theorem g_cF {b : Bool} {x y : Option β} (hb : b = false) (h : Gd G y) : Gd G (pCond (.sc (.bool b)) x y) := by subst hb; exact h
theorem g_c {b : Bool} {x y : Option β} (h1 : b = true → Gd G x) (h2 : b = false → Gd G y) : Gd G (pCond (.sc (.bool b)) x y) := by
 cases b
 ·exact h2 rfl
 ·exact h1 rfl
theorem g_cD {p : Prop} [Decidable p] {x y : Option β} (h1 : p → Gd G x) (h2 : ¬ p → Gd G y) : Gd G (pCond (.sc (.bool (decide p))) x y) := g_c (fun h => h1 (of_decide_eq_true h)) (fun h => h2 (of_decide_eq_false h))
theorem g_cN {b : Bool} {x y : Option β} (h1 : b = false → Gd G x) (h2 : b = true → Gd G y) : Gd G (pCond (.sc (.bool (!b))) x y) := g_c (fun h => h1 (by simpa using h)) (fun h => h2 (by simpa using h))
theorem g_cND {p : Prop} [Decidable p] {x y : Option β} (h1 : ¬ p → Gd G x) (h2 : p → Gd G y) : Gd G (pCond (.sc (.bool (!decide p))) x y) := g_cN (fun h => h1 (of_decide_eq_false h)) (fun h => h2 (of_decide_eq_true h))
theorem g_cDT {p : Prop} [Decidable p] {x y : Option β} (hp : p) (h : Gd G x) : Gd G (pCond (.sc (.bool (decide p))) x y) := g_cT (decide_eq_true hp) h
theorem g_cDF {p : Prop} [Decidable p] {x y : Option β} (hp : ¬ p) (h : Gd G y) : Gd G (pCond (.sc (.bool (decide p))) x y) := g_cF (decide_eq_false hp) h
theorem g_gd {b t : Bool} {m : (AV → Heap → Option β) → Option β} (h1 : b = t → Gd G (m fun x H => KH x H)) (h2 : b = (!t) → Gd G (KH (.sc undef) H)) : Gd G (pGuard (.sc (.bool b)) t H m fun x H => KH x H) := by
 cases b <;> cases t <;> first | exact h1 rfl | exact h2 rfl
theorem g_gY {b t : Bool} {m : (AV → Heap → Option β) → Option β} (hb : b = t) (h : Gd G (m fun x H => KH x H)) : Gd G (pGuard (.sc (.bool b)) t H m fun x H => KH x H) := by
 subst hb
 cases b <;> exact h
theorem g_gN {b t : Bool} {m : (AV → Heap → Option β) → Option β} (hb : b = !t) (h : Gd G (KH (.sc undef) H)) : Gd G (pGuard (.sc (.bool b)) t H m fun x H => KH x H) := by
 subst hb
 cases t <;> exact h
theorem g_gU {t : Bool} {m : (AV → Heap → Option β) → Option β} (h : Gd G (KH (.sc undef) H)) : Gd G (pGuard (.sc undef) t H m fun x H => KH x H) := h
theorem g_pT {b : Bool} {x y : AV} (hb : b = true) (h : Gd G (K x)) : Gd G (pPick (.sc (.bool b)) x y fun t => K t) := by
 subst hb
 cases x <;> cases y <;> exact h
theorem g_pF {b : Bool} {x y : AV} (hb : b = false) (h : Gd G (K y)) : Gd G (pPick (.sc (.bool b)) x y fun t => K t) := by
 subst hb
 cases x <;> cases y <;> exact h
theorem g_pS {b : Bool} {x y : AV} (h1 : b = true → Gd G (K x)) (h2 : b = false → Gd G (K y)) : Gd G (pPick (.sc (.bool b)) x y fun t => K t) := by
 cases hb : b
 ·exact g_pF rfl (h2 hb)
 ·exact g_pT rfl (h1 hb)
inductive VwC (L : List Ck) : Nat → AV → AV → Prop
 | sc {d : Nat} {v : Value} : VwC L (d + 1) (.sc v) (.sc v)
 | nl {d : Nat} : VwC L (d + 1) .nl (.ro 0 [])
 | ro {d n : Nat} {cs : List AV} : VwC L (d + 1) (.ro n cs) (.ro n cs)
 | rp {d : Nat} {cs : List AV} : VwC L (d + 1) (.rp cs) (.rp cs)
 | own {d : Nat} {x t : AV} {ty : Nat} {L' : List Ck} : 6 ≤ d → Pk L (.own x ty t) L' → VwC L d x t
end
inductive VwL (L : List Ck) : Nat → List AV → List AV → Prop
 | nil {d : Nat} : VwL L d [] []
 | cons {d : Nat} {x t : AV} {xs ts : List AV} : VwC L d x t → VwL L d xs ts → VwL L d (x :: xs) (t :: ts)
 | agg {d : Nat} {cs ds xs ts : List AV} : VwL L d cs ds → VwL L (d + 1) xs ts → VwL L (d + 1) (.agg cs :: xs) (.agg ds :: ts)
 | aggF {d : Nat} {cs xs ts : List AV} : cs.all isFl = true → VwL L (d + 2) xs ts → VwL L (d + 2) (.agg cs :: xs) (.agg cs :: ts)
 | sl {d i k w : Nat} {cs ds xs ts : List AV} {a : Bool} {L' : List Ck} : Pk L (.blk i cs a) L' → cs.length = k * w → VwL L d cs ds → VwL L (d + 1) xs ts → VwL L (d + 1) (.sl i 0 k w :: xs) (.ro k ds :: ts)
 | slA {d i o k w : Nat} {cs ds xs ts : List AV} {a : Bool} {L' : List Ck} : Pk L (.blk i cs a) L' → o + k * w ≤ cs.length → VwL L d ((cs.drop o).take (k * w)) ds → VwL L (d + 1) xs ts → VwL L (d + 1) (.sl i o k w :: xs) (.ro k ds :: ts)
 | ptr {d i : Nat} {cs ds xs ts : List AV} {a : Bool} {L' : List Ck} : Pk L (.blk i cs a) L' → VwL L d cs ds → VwL L (d + 1) xs ts → VwL L (d + 1) (.ptr i 0 :: xs) (.rp ds :: ts)
 | fn {d f : Nat} {ps cs ps' cs' xs ts : List AV} : VwL L d ps ps' → VwL L d cs cs' → VwL L (d + 1) xs ts → VwL L (d + 1) (.fn f ps cs :: xs) (.fn f ps' cs' :: ts)
section
variable {β : Type} {n : Nat} {H : Heap} {L L' L1 L2 : List Ck} {G : Option β → Prop} {K : AV → Option β} {KH : AV → Heap → Option β}
theorem VwC.sound (hs : Sep H L) {d : Nat} {x t : AV} (h : VwC L d x t) : viewV H d x = some t := by
 cases h with
 | sc => rfl
 | nl => rfl
 | ro => rfl
 | rp => rfl
 | own hd hp =>
  obtain ⟨_, h1, I, h2, _⟩ := hs.own hp
  exact own_view d _ _ _ I (own_dep 6 d _ _ _ _ h2 (okW_le h1 hd))
theorem view_cons {d : Nat} {x t : AV} {xs ts : List AV} (h : viewV H d x = some t) (hs : xs.mapM (viewV H d) = some ts) : (x :: xs).mapM (viewV H d) = some (t :: ts) := by
 simp only [List.mapM_cons, h, hs, Option.pure_def, Option.bind_eq_bind, Option.bind_some]
theorem VwL.sound (hs : Sep H L) : ∀ {d : Nat} {xs ts : List AV}, VwL L d xs ts → xs.mapM (viewV H d) = some ts
 | _, _, _, .nil => rfl
 | _, _, _, .cons h q => view_cons (h.sound hs) (q.sound hs)
 | _, _, _, .agg h q => view_cons (by rw [viewV_agg, h.sound hs]; rfl) (q.sound hs)
 | _, _, _, .aggF h q => view_cons (by rw [viewV_agg, fl_view h]; rfl) (q.sound hs)
 | _, _, _, .sl (i := i) (k := k) (w := w) (cs := cs) hp hl h q => view_cons (by
   rw [viewV_sl]
   have hb := hs.blk hp
   have e : rdCells H i 0 (k * w) = some cs := by
    simp only [rdCells, hb, if_true, List.drop_zero, Nat.zero_add, ← hl, Nat.le_refl, List.take_length]
   rw [e, Option.bind_some, h.sound hs]
   rfl) (q.sound hs)
 | _, _, _, .slA (i := i) (o := o) (k := k) (w := w) (cs := cs) hp hl h q => view_cons (by
   rw [viewV_sl]
   have hb := hs.blk hp
   have e : rdCells H i o (k * w) = some ((cs.drop o).take (k * w)) := by
    simp only [rdCells, hb, if_true, hl]
   rw [e, Option.bind_some, h.sound hs]
   rfl) (q.sound hs)
 | _, _, _, .ptr (i := i) (cs := cs) hp h q => view_cons (by
   have hb := hs.blk hp
   show ((H[i]?).bind fun b => (rdCells H i 0 (b.cells.length - 0)).bind fun cs => (cs.mapM (viewV H _)).bind fun vs => some (AV.rp vs)) = _
   rw [hb, Option.bind_some]
   have e : rdCells H i 0 (cs.length - 0) = some cs := by
    simp only [rdCells, hb, if_true, List.drop_zero, Nat.zero_add, Nat.sub_zero, Nat.le_refl, List.take_length]
   show (rdCells H i 0 (cs.length - 0)).bind _ = _
   rw [e, Option.bind_some, h.sound hs]
   rfl) (q.sound hs)
 | _, _, _, .fn (d := d) (ps := ps) (cs := cs) h1 h2 q => view_cons (by
   show ((ps.mapM (viewV H d)).bind fun us => (cs.mapM (viewV H d)).bind fun ws => some (AV.fn _ us ws)) = _
   rw [h1.sound hs, Option.bind_some, h2.sound hs]
   rfl) (q.sound hs)
theorem g_callE {ty : Nat} {f : FuncId} {caps args vs : List AV} {t : AV} (hs : Sep H L) (hh : plainF f = false) (hv : VwL L 8 (args ++ caps) vs) (ht : tree E0 n ty f vs = some t) (h : Gd G (KH (instT ti0 E0.tp H.length ty t).1 (H ++ (instT ti0 E0.tp H.length ty t).2))) : Gd G ((PR n β).call ty (.fn f [] caps) args H fun x H => KH x H) := g_congr (PR_callC hh (hv.sound hs) ht) h
theorem g_callS {ty : Nat} {f : FuncId} {args vs : List AV} {v : Value} (hs : Sep H L) (hh : plainF f = false) (hv : VwL L 8 args vs) (ht : tree E0 n ty f vs = some (.sc v)) (h : Gd G (KH (.sc v) H)) : Gd G ((PR n β).call ty (.fn f [] []) args H fun x H => KH x H) := by
 refine g_callE hs hh (by rw [List.append_nil]; exact hv) ht ?_
 rw [instT_sc, List.append_nil]
 exact h
theorem inst_own {ty m : Nat} {cells : List AV} (hs : Sep H L) (hok : okW ti0 E0.tp 6 ty (.ro m cells)) : isLeaf (instT ti0 E0.tp H.length ty (.ro m cells)).1 = true ∧ Sep (H ++ (instT ti0 E0.tp H.length ty (.ro m cells)).2) (.own (instT ti0 E0.tp H.length ty (.ro m cells)).1 ty (.ro m cells) :: L) := by
 have hl : isLeaf (instT ti0 E0.tp H.length ty (.ro m cells)).1 = true := rfl
 refine ⟨hl, hs.new (J := List.range' H.length (instT ti0 E0.tp H.length ty (.ro m cells)).2.length) ⟨hl, hok, own_inst 6 ty _ H.length hok (Lies_end _ _)⟩ List.nodup_range' fun i hi => ?_⟩
 rw [List.mem_range'_1] at hi
 exact hi.1
theorem g_callO {ty m : Nat} {f : FuncId} {args vs cells : List AV} (hs : Sep H L) (hh : plainF f = false) (hv : VwL L 8 args vs) (ht : tree E0 n ty f vs = some (.ro m cells)) (hok : okW ti0 E0.tp 6 ty (.ro m cells)) (h : ∀ x H', isLeaf x = true → Sep H' (.own x ty (.ro m cells) :: L) → Gd G (KH x H')) : Gd G ((PR n β).call ty (.fn f [] []) args H fun x H => KH x H) := by
 refine g_callE hs hh (by rw [List.append_nil]; exact hv) ht ?_
 obtain ⟨h1, h2⟩ := inst_own hs hok
 exact h _ _ h1 h2
def InsL (ts : List Nat) (cs : List AV) (Φ : List AV → List Ck → Prop) : Prop := ∀ (H : Heap) (L : List Ck), Sep H L → ∃ xs Lx, xs = (instL ti0 E0.tp H.length ts cs).1 ∧ Sep (H ++ (instL ti0 E0.tp H.length ts cs).2) (Lx ++ L) ∧ Φ xs Lx
theorem ins_nil {ts : List Nat} : InsL ts [] fun xs Lx => xs = [] ∧ Lx = [] := fun H L hs => ⟨[], [], rfl, by simpa [instL] using hs, rfl, rfl⟩
theorem ins_sc {ts : List Nat} {v : Value} {cs : List AV} {Φ : List AV → List Ck → Prop} (h : InsL ts.tail cs Φ) : InsL ts (.sc v :: cs) fun xs Lx => ∃ ys, xs = .sc v :: ys ∧ Φ ys Lx := fun H L hs => by
 obtain ⟨ys, Ly, e1, e2, e3⟩ := h H L hs
 refine ⟨.sc v :: ys, Ly, ?_, ?_, ys, rfl, e3⟩
 ·simp only [instL, instT_sc, List.length_nil, Nat.add_zero]
  rw [e1]
 ·simpa only [instL, instT_sc, List.length_nil, Nat.add_zero, List.nil_append] using e2
theorem ins_ro {ts : List Nat} {m ty : Nat} {cells cs : List AV} {Φ : List AV → List Ck → Prop} (hty : ts.headD 0 = ty) (hok : okW ti0 E0.tp 6 ty (.ro m cells)) (h : InsL ts.tail cs Φ) : InsL ts (.ro m cells :: cs) fun xs Lx => ∃ x ys Ly, isLeaf x = true ∧ xs = x :: ys ∧ Lx = Ly ++ [.own x ty (.ro m cells)] ∧ Φ ys Ly := fun H L hs => by
 subst hty
 obtain ⟨h1, h2⟩ := inst_own hs hok
 obtain ⟨ys, Ly, e1, e2, e3⟩ := h _ _ h2
 refine ⟨_ :: ys, Ly ++ [.own _ (ts.headD 0) (.ro m cells)], ?_, ?_, _, ys, Ly, h1, rfl, rfl, e3⟩
 ·simp only [instL]
  rw [e1, List.length_append]
 ·simp only [instL]
  rw [List.length_append, List.append_assoc] at e2
  rw [List.append_assoc]
  exact e2
theorem ins_agg {ts cty : List Nat} {cs rest : List AV} {Φ Ψ : List AV → List Ck → Prop} (hty : ∃ i, ti0 (ts.headD 0) = some i ∧ i.cty = cty) (h1 : InsL cty cs Ψ) (h : InsL ts.tail rest Φ) : InsL ts (.agg cs :: rest) fun xs Lx => ∃ ys zs Ly Lz, xs = .agg ys :: zs ∧ Lx = Lz ++ Ly ∧ Ψ ys Ly ∧ Φ zs Lz := fun H L hs => by
 obtain ⟨i, hi, rfl⟩ := hty
 obtain ⟨ys, Ly, a1, a2, a3⟩ := h1 H L hs
 obtain ⟨zs, Lz, b1, b2, b3⟩ := h _ _ a2
 refine ⟨.agg ys :: zs, Lz ++ Ly, ?_, ?_, ys, zs, Ly, Lz, rfl, rfl, a3, b3⟩
 ·simp only [instL, instT_agg, hi, Option.getD_some]
  rw [a1, b1, List.length_append]
 ·simp only [instL, instT_agg, hi, Option.getD_some]
  rw [List.length_append, List.append_assoc] at b2
  rw [List.append_assoc]
  exact b2
theorem g_callA {ty : Nat} {f : FuncId} {args vs cs : List AV} {cty : List Nat} {Φ : List AV → List Ck → Prop} (hs : Sep H L) (hh : plainF f = false) (hv : VwL L 8 args vs) (ht : tree E0 n ty f vs = some (.agg cs)) (hty : ∃ i, ti0 ty = some i ∧ i.cty = cty) (hi : InsL cty cs Φ) (h : ∀ xs Lx H', Φ xs Lx → Sep H' (Lx ++ L) → Gd G (KH (.agg xs) H')) : Gd G ((PR n β).call ty (.fn f [] []) args H fun x H => KH x H) := by
 refine g_callE hs hh (by rw [List.append_nil]; exact hv) ht ?_
 obtain ⟨i, e1, rfl⟩ := hty
 obtain ⟨xs, Lx, a1, a2, a3⟩ := hi H L hs
 rw [instT_agg, e1, Option.getD_some, ← a1]
 exact h _ _ _ a3 a2
theorem g_callT {ty : Nat} {f : FuncId} {args vs cs : List AV} {tys : List Nat} {Φ : List AV → List Ck → Prop} (hs : Sep H L) (hh : plainF f = false) (hv : VwL L 8 args vs) (ht : tree E0 n ty f vs = some (.tup cs)) (hty : E0.tp ty = some tys) (hi : InsL tys cs Φ) (h : ∀ xs Lx H', Φ xs Lx → Sep H' (Lx ++ L) → Gd G (KH (.tup xs) H')) : Gd G ((PR n β).call ty (.fn f [] []) args H fun x H => KH x H) := by
 refine g_callE hs hh (by rw [List.append_nil]; exact hv) ht ?_
 obtain ⟨xs, Lx, a1, a2, a3⟩ := hi H L hs
 rw [instT_tup, hty, Option.getD_some, ← a1]
 exact h _ _ _ a3 a2
theorem g_hm {ty : Nat} {f : FuncId} {caps args : List AV} (hh : E0.hm f = true) (he : E0.ext f = none) (h : Gd G (evalFn E0 n β f (args ++ caps) H fun x H => KH x H)) : Gd G ((PR n β).call ty (.fn f [] caps) args H fun x H => KH x H) := by
 refine g_congr ?_ h
 show callF E0 (evalFn E0 n) ty f ([] ++ args ++ caps) H _ = _
 simp only [callF, he, hh, List.nil_append, if_true]
def Src (H : Heap) (L : List Ck) (sz : Nat) (cty : List Nat) (y : AV) (m : Nat) (cb : List AV) (L' : List Ck) : Prop :=
 ∀ I, SepI H L I → ∃ raw J R X, lenA y = some m ∧ content H sz y = some raw ∧ raw.all isLeaf = true ∧ raw.length = m * sz ∧ ownL (ownT ti0 E0.tp H 5) (List.replicate m cty).flatten raw = some (cb, J) ∧ SepI H L' R ∧ I.Perm (J ++ (R ++ X))
def isSc : AV → Bool
 | .sc v => leafV v
 | _ => false
theorem isSc_leaf {l : List AV} (h : l.all isSc = true) : l.all isLeaf = true := by
 rw [List.all_eq_true] at h ⊢
 intro x hx
 have := h x hx
 cases x <;> simp_all [isSc, isLeaf]
theorem ownL_isSc {d : Nat} : ∀ {ts : List Nat} {l : List AV}, ts.length = l.length → l.all isSc = true → ownL (ownT ti0 E0.tp H (d + 1)) ts l = some (l, [])
 | [], [], _, _ => rfl
 | t :: ts, x :: l, h, hl => by
  rw [List.all_cons, Bool.and_eq_true] at hl
  cases x with
  | sc v =>
   rw [ownL, ownT_sc, Option.bind_some, ownL_isSc (ts := ts) (l := l) (by simpa using h) hl.2]
   rfl
  | _ => simp [isSc] at hl
 | [], _ :: _, h, _ => by simp at h
 | _ :: _, [], h, _ => by simp at h
theorem src_ro {sz m : Nat} {cty : List Nat} {cells : List AV} (hc : cty.length = sz) (hl : cells.length = m * sz) (hf : cells.all isSc = true) : Src H L sz cty (.ro m cells) m cells L := fun I h => by
 refine ⟨cells, [], I, [], rfl, ?_, isSc_leaf hf, hl, ownL_isSc (by simp [hc, hl]) hf, h, by simp⟩
 show (if cells.length = m * sz then some cells else none) = _
 rw [if_pos hl]
theorem src_nl {sz : Nat} {cty : List Nat} : Src H L sz cty .nl 0 [] L := fun I h => ⟨[], [], I, [], rfl, rfl, rfl, by simp, by simp [ownL], h, by simp⟩
theorem src_blk {sz m i : Nat} {cty : List Nat} {raw cb : List AV} {a : Bool} (hp : Pk L (.blk i raw a) L1) (hl : raw.length = m * sz) (hf : raw.all isLeaf = true) (hr : OwnR L1 raw (List.replicate m cty).flatten cb L2) (hok : okLW (okW ti0 E0.tp 5) (List.replicate m cty).flatten cb) : Src H L sz cty (.sl i 0 m sz) m cb L2 := fun I h => by
 obtain ⟨J, R, ⟨rfl, h1⟩, h2, h3⟩ := hp.sepI h
 obtain ⟨J', R', g1, g2, g3⟩ := hr.sound h2 5 hok
 refine ⟨raw, J', R', [i], rfl, ?_, hf, hl, g1, g2, ?_⟩
 ·show (if sz = sz then rdCells H i 0 (m * sz) else none) = _
  simp only [if_true, rdCells, h1, Nat.zero_add, List.drop_zero, ← hl, Nat.le_refl, List.take_length]
 ·refine h3.trans (List.perm_append_comm.trans ?_)
  rw [← List.append_assoc]
  exact List.Perm.append_right [i] g3
theorem own_raw {d ty m : Nat} {x : AV} {cells : List AV} {I : List Nat} {i j : TI} (h1 : ti0 ty = some i) (h2 : ti0 i.elem = some j) (h : ownT ti0 E0.tp H (d + 1) ty x = some (.ro m cells, I)) :
  (x = .nl ∧ m = 0 ∧ cells = [] ∧ I = []) ∨ ∃ id off raw J b, x = .sl id off m j.size ∧ I = id :: J ∧ H[id]? = some b ∧ b.live = true ∧ b.app = true ∧ rdCells H id off (m * j.size) = some raw ∧ ownL (ownT ti0 E0.tp H d) (List.replicate m j.cty).flatten raw = some (cells, J) := by
 cases x with
 | sc v => simp [ownT] at h
 | nl =>
  have := (Option.some.inj h)
  simp only [Prod.mk.injEq, AV.ro.injEq] at this
  obtain ⟨⟨rfl, rfl⟩, rfl⟩ := this
  exact .inl ⟨rfl, rfl, rfl, rfl⟩
 | sl id off n z =>
  rw [ownT_sl] at h
  simp only [h1, h2, Option.bind_some] at h
  split at h
  case isFalse => cases h
  rename_i hz
  split at h
  case isFalse => cases h
  rename_i ha
  simp only [Option.bind_eq_some_iff] at h
  obtain ⟨cs, h4, q, h5, h6⟩ := h
  simp only [Option.some.injEq, Prod.mk.injEq, AV.ro.injEq] at h6
  obtain ⟨⟨rfl, rfl⟩, rfl⟩ := h6
  subst hz
  obtain ⟨hl, b, hb, hlv, _, _⟩ := rd_live h4
  have ha' : b.app = true := by simpa only [isApp, hb] using ha
  exact .inr ⟨id, off, cs, q.2, b, rfl, rfl, hb, hlv, ha', h4, h5⟩
 | agg cs =>
  rw [ownT_agg] at h
  simp only [Option.bind_eq_some_iff] at h
  obtain ⟨i, h1, q, h2, h3⟩ := h
  simp at h3
 | tup cs =>
  rw [ownT_tup] at h
  simp only [Option.bind_eq_some_iff] at h
  obtain ⟨i, h1, q, h2, h3⟩ := h
  simp at h3
 | _ => simp [ownT] at h
theorem ownL_leaf {f : Nat → AV → Option (AV × List Nat)} : ∀ {ts : List Nat} {xs : List AV} {p : List AV × List Nat}, (∀ t x a I, f t x = some (a, I) → isFl a = true → isLeaf x = true) → ownL f ts xs = some p → p.1.all isFl = true → xs.all isLeaf = true
 | ts, [], p, _, h, _ => rfl
 | [], _ :: _, p, _, h, _ => by simp [ownL] at h
 | t :: ts, x :: xs, p, hf, h, hl => by
  obtain ⟨a, b, h1, h2, rfl⟩ := ownL_cons h
  rw [List.all_cons, Bool.and_eq_true] at hl
  rw [List.all_cons, Bool.and_eq_true]
  exact ⟨hf t x a.1 a.2 h1 hl.1, ownL_leaf hf h2 hl.2⟩
theorem own_leaf {d ty : Nat} {x a : AV} {I : List Nat} (h : ownT ti0 E0.tp H d ty x = some (a, I)) (hl : isFl a = true) : isLeaf x = true := by
 cases d with
 | zero => simp [ownT] at h
 | succ d =>
  cases x with
  | sc v =>
   obtain ⟨rfl, _⟩ : AV.sc v = a ∧ [] = I := by simpa [ownT] using h
   exact hl
  | nl => rfl
  | sl id off n z => rfl
  | agg cs =>
   rw [ownT_agg] at h
   simp only [Option.bind_eq_some_iff] at h
   obtain ⟨i, h1, q, h2, h3⟩ := h
   obtain ⟨rfl, _⟩ : AV.agg q.1 = a ∧ q.2 = I := by simpa using h3
   cases hl
  | tup cs =>
   rw [ownT_tup] at h
   simp only [Option.bind_eq_some_iff] at h
   obtain ⟨i, h1, q, h2, h3⟩ := h
   obtain ⟨rfl, _⟩ : AV.tup q.1 = a ∧ q.2 = I := by simpa using h3
   cases hl
  | _ => simp [ownT] at h
theorem src_own {sz m ty : Nat} {cty : List Nat} {y : AV} {cb : List AV} (hty : ∃ i j, ti0 ty = some i ∧ ti0 i.elem = some j ∧ j.size = sz ∧ j.cty = cty) (hp : Pk L (.own y ty (.ro m cb)) L2) (hf : cb.all isFl = true) : Src H L sz cty y m cb L2 := fun I h => by
 obtain ⟨i, j, e1, e2, rfl, rfl⟩ := hty
 obtain ⟨J, R, ⟨_, _, h1⟩, h2, h3⟩ := hp.sepI h
 rcases own_raw e1 e2 h1 with ⟨rfl, rfl, rfl, rfl⟩ | ⟨id, off, raw, J', b, rfl, rfl, hb, hlv, ha, h4, h5⟩
 ·exact ⟨[], [], R, [], rfl, rfl, rfl, by simp, by simp [ownL], h2, by simpa using h3⟩
 ·have hl := (rd_live h4).1
  refine ⟨raw, J', R, [id], rfl, ?_, ownL_leaf (fun t x a I h hl => own_leaf h hl) h5 hf, hl, h5, h2, ?_⟩
  ·show (if j.size = j.size then rdCells H id off (m * j.size) else none) = _
   rw [if_pos rfl, h4]
  ·refine h3.trans ?_
   rw [← List.append_assoc]
   exact (List.perm_append_comm (l₁ := [id]) (l₂ := J' ++ R))
theorem src_keep {sz m ty : Nat} {cty : List Nat} {y : AV} {cb : List AV} (hty : ∃ i j, ti0 ty = some i ∧ ti0 i.elem = some j ∧ j.size = sz ∧ j.cty = cty) (hp : Pk L (.own y ty (.ro m cb)) L2) (hf : cb.all isSc = true) : Src H L sz cty y m cb L := fun I h => by
 obtain ⟨i, j, e1, e2, rfl, rfl⟩ := hty
 obtain ⟨J, R, ⟨_, _, h1⟩, h2, h3⟩ := hp.sepI h
 rcases own_raw e1 e2 h1 with ⟨rfl, rfl, rfl, rfl⟩ | ⟨id, off, raw, J', b, rfl, rfl, hb, hlv, ha, h4, h5⟩
 ·exact ⟨[], [], I, [], rfl, rfl, rfl, by simp, by simp [ownL], h, by simp⟩
 ·have hl := (rd_live h4).1
  have key : ∀ {ts : List Nat} {xs cells : List AV} {I : List Nat}, ownL (ownT ti0 E0.tp H 5) ts xs = some (cells, I) → cells.all isSc = true → xs = cells ∧ I = [] := by
   intro ts xs
   induction xs generalizing ts with
   | nil =>
    intro cells I h _
    obtain ⟨_, e⟩ := ownL_nil h
    cases e
    exact ⟨rfl, rfl⟩
   | cons x xs ih =>
    intro cells I h hs
    cases ts with
    | nil => simp [ownL] at h
    | cons t ts =>
     obtain ⟨a, b, h1, h2, e⟩ := ownL_cons h
     cases e
     rw [List.all_cons, Bool.and_eq_true] at hs
     obtain ⟨rfl, e2⟩ := ih h2 hs.2
     have hx : x = a.1 ∧ a.2 = [] := by
      obtain ⟨a1, a2⟩ := a
      cases a1 with
      | sc v =>
       have := own_sc h1
       subst this
       have : (AV.sc v, ([] : List Nat)) = (.sc v, a2) := Option.some.inj h1
       cases this
       exact ⟨rfl, rfl⟩
      | _ => simp [isSc] at hs
     refine ⟨by rw [hx.1], by rw [hx.2, e2]; rfl⟩
  obtain ⟨rfl, rfl⟩ := key h5 hf
  refine ⟨raw, [], I, [], rfl, ?_, isSc_leaf hf, hl, h5, h, by simp⟩
  show (if j.size = j.size then rdCells H id off (m * j.size) else none) = _
  rw [if_pos rfl, h4]
theorem g_app {sz bytes k m ty : Nat} {cty : List Nat} {x y : AV} {ca cb : List AV} (hs : Sep H L) (hty : ∃ i j, ti0 ty = some i ∧ ti0 i.elem = some j ∧ j.size = sz ∧ j.cty = cty) (hx : Pk L (.own x ty (.ro k ca)) L1) (hy : Src H L1 sz cty y m cb L2) (hok : okLW (okW ti0 E0.tp 5) (List.replicate m cty).flatten cb) (hb : (k + m) * bytes ≤ 140737488355328)
  (h : ∀ x' H', isLeaf x' = true → Sep H' (.own x' ty (.ro (k + m) (ca ++ cb)) :: L2) → Gd G (KH x' H')) : Gd G (pApp sz bytes x y H fun x H => KH x H) := by
 obtain ⟨i, j, e1, e2, rfl, rfl⟩ := hty
 obtain ⟨I, hI, hn⟩ := hs
 obtain ⟨J, R, ⟨hlx, hox, h1⟩, h2, h3⟩ := hx.sepI hI
 obtain ⟨raw, Jy, Ry, X, q1, q2, q3, q4, q5, q6, q7⟩ := hy R h2
 have hn' : (J ++ (Jy ++ (Ry ++ X))).Nodup := (h3.trans (List.Perm.append_left J q7)).nodup_iff.1 hn
 have hRlt : ∀ i ∈ Jy ++ Ry, i < H.length := fun z hz => by
  refine h2.lt z ?_
  refine q7.symm.mem_iff.1 ?_
  rw [← List.append_assoc]
  exact List.mem_append_left _ hz
 have hok' : okW ti0 E0.tp 6 ty (.ro (k + m) (ca ++ cb)) := by
  obtain ⟨i', j', g1, g2, g3, g4⟩ := hox
  rw [e1] at g1
  cases g1
  rw [e2] at g2
  cases g2
  refine ⟨i, j, e1, e2, ?_, ?_⟩
  ·have := okLW_len hok
   have hq := ownL_len q5
   rw [List.length_append, g3, hq.2, q4, Nat.add_mul]
  ·rw [← List.replicate_append_replicate, List.flatten_append]
   exact okLW_append g4 hok
 have fin : ∀ (H1 : Heap) (cx : List AV) (Jx : List Nat), H1.length = H.length → cx.all isLeaf = true ∨ True → ownL (ownT ti0 E0.tp H1 5) (List.replicate k j.cty).flatten cx = some (ca, Jx) → ownL (ownT ti0 E0.tp H1 5) (List.replicate m j.cty).flatten raw = some (cb, Jy) → SepI H1 L2 Ry → (Jx ++ (Jy ++ (Ry ++ X))).Nodup → (∀ i ∈ Jx, i < H1.length) → cx.length = k * j.size →
   Sep (H1 ++ [⟨cx ++ raw, true, true⟩]) (.own (.sl H1.length 0 (k + m) j.size) ty (.ro (k + m) (ca ++ cb)) :: L2) := by
  intro H1 cx Jx hl1 _ a1 a2 a3 a4 a5 a6
  have hg : (H1 ++ [(⟨cx ++ raw, true, true⟩ : Blk)])[H1.length]? = some ⟨cx ++ raw, true, true⟩ := by
   rw [List.getElem?_append_right (Nat.le_refl _), Nat.sub_self]
   rfl
  have fr : ∀ z, z < H1.length → (H1 ++ [(⟨cx ++ raw, true, true⟩ : Blk)])[z]? = H1[z]? := fun z hz => List.getElem?_append_left hz
  have b1 := ownL_frame (f' := ownT ti0 E0.tp (H1 ++ [⟨cx ++ raw, true, true⟩]) 5) (fun t x a h hi => own_frame 5 t x a h fun z hz => fr z (a5 z (hi z hz))) a1
  have b2 := ownL_frame (f' := ownT ti0 E0.tp (H1 ++ [⟨cx ++ raw, true, true⟩]) 5) (fun t x a h hi => own_frame 5 t x a h fun z hz => fr z (by rw [hl1]; exact hRlt z (List.mem_append_left _ (hi z hz)))) a2
  have b3 := a3.grow [⟨cx ++ raw, true, true⟩]
  have b4 := ownL_append b1 b2
  rw [← List.flatten_append, List.replicate_append_replicate] at b4
  refine ⟨(H1.length :: (Jx ++ Jy)) ++ Ry, ⟨H1.length :: (Jx ++ Jy), Ry, rfl, ⟨rfl, hok', ?_⟩, b3⟩, ?_⟩
  ·rw [ownT_sl]
   have ha : isApp (H1 ++ [⟨cx ++ raw, true, true⟩]) H1.length = true := by simp only [isApp, hg]
   have hrd : rdCells (H1 ++ [⟨cx ++ raw, true, true⟩]) H1.length 0 ((k + m) * j.size) = some (cx ++ raw) := by
    have : (cx ++ raw).length = (k + m) * j.size := by rw [List.length_append, a6, q4, Nat.add_mul]
    simp only [rdCells, hg, if_true, Nat.zero_add, List.drop_zero, ← this, Nat.le_refl, List.take_length]
   simp only [e1, e2, Option.bind_some, if_true, ha, hrd, b4]
  ·rw [List.cons_append, List.nodup_cons]
   have hn3 : (Jx ++ Jy ++ Ry).Nodup := by
    rw [List.append_assoc]
    have : (Jx ++ (Jy ++ Ry) ++ X).Nodup := by simpa only [List.append_assoc] using a4
    exact (List.nodup_append.1 this).1
   refine ⟨fun hm => ?_, hn3⟩
   rcases List.mem_append.1 hm with hm | hm
   ·rcases List.mem_append.1 hm with hm | hm
    ·exact Nat.lt_irrefl _ (a5 _ hm)
    ·have := hRlt _ (List.mem_append_left _ hm)
     omega
   ·have := hRlt _ (List.mem_append_right _ hm)
    omega
 rcases own_raw e1 e2 h1 with ⟨rfl, rfl, rfl, rfl⟩ | ⟨id, off, cx, J', b, rfl, rfl, hb1, hlv, hap, h4, h5⟩
 ·have hc : content H j.size .nl = some [] := rfl
  refine g_congr (b := KH (.sl H.length 0 (0 + m) j.size) (H ++ [⟨[] ++ raw, true, true⟩])) ?_ (h _ _ rfl (fin H [] [] rfl (.inr trivial) (by simp [ownL]) q5 q6 (by simpa using hn') (by simp) (by simp)))
  have hl0 : lenA .nl = some 0 := rfl
  have hk0 : kill H .nl = some H := rfl
  simp only [pApp, hl0, Option.bind_some, q1, q2, hc, hk0]
  rw [if_pos hb, if_pos q3]
  rfl
 ·have hc : content H j.size (.sl id off k j.size) = some cx := by
   show (if j.size = j.size then rdCells H id off (k * j.size) else none) = _
   rw [if_pos rfl, h4]
  have hk : kill H (.sl id off k j.size) = some (H.set id { b with live := false }) := by
   show (H[id]?).bind (fun b => if b.app then some (H.set id { b with live := false }) else none) = _
   rw [hb1, Option.bind_some, if_pos hap]
  have hn2 : (id :: (J' ++ (Jy ++ (Ry ++ X)))).Nodup := hn'
  have hnid := (List.nodup_cons.1 hn2).1
  have hset : ∀ z, z ≠ id → (H.set id { b with live := false })[z]? = H[z]? := fun z hz => List.getElem?_set_ne (fun e => hz e.symm)
  have c1 := ownL_frame (f' := ownT ti0 E0.tp (H.set id { b with live := false }) 5) (fun t x a h hi => own_frame 5 t x a h fun z hz => hset z (fun e => hnid (e ▸ List.mem_append_left _ (hi z hz)))) h5
  have c2 := ownL_frame (f' := ownT ti0 E0.tp (H.set id { b with live := false }) 5) (fun t x a h hi => own_frame 5 t x a h fun z hz => hset z (fun e => hnid (e ▸ List.mem_append_right _ (List.mem_append_left _ (hi z hz))))) q5
  have c3 := q6.frame (H' := H.set id { b with live := false }) fun z hz => hset z (fun e => hnid (e ▸ List.mem_append_right _ (List.mem_append_right _ (List.mem_append_left _ hz))))
  have hJlt : ∀ z ∈ J', z < H.length := fun z hz => own_lt 6 ty _ _ h1 z (List.mem_cons_of_mem _ hz)
  refine g_congr (b := KH (.sl (H.set id { b with live := false }).length 0 (k + m) j.size) (H.set id { b with live := false } ++ [⟨cx ++ raw, true, true⟩])) ?_ (h _ _ rfl (fin _ cx J' (by simp) (.inr trivial) c1 c2 c3 (List.nodup_cons.1 hn2).2 (fun z hz => by rw [List.length_set]; exact hJlt z hz) (rd_live h4).1))
  have hl0 : lenA (.sl id off k j.size) = some k := rfl
  simp only [pApp, hl0, Option.bind_some, q1, q2, hc, hk]
  rw [if_pos hb, if_pos q3]
  rfl
theorem tree_gd {G : Option AV → Prop} {o : Option AV} (h : Gd G o) : G o := h
theorem ret_tup {ty : Nat} {tys : List Nat} {raw cells : List AV} (hs : Sep H L) (hts : E0.tp ty = some tys) (hr : OwnR L raw tys cells L') (hok : okLW (okW ti0 E0.tp 7) tys cells) : ownTree ti0 E0.tp ty H (.tup raw) = some (.tup cells) := by
 obtain ⟨I, h1, h2⟩ := hs
 obtain ⟨J, R, g1, g2, g3⟩ := hr.sound h1 7 hok
 have hn := (List.nodup_append.1 (g3.nodup_iff.1 h2)).1
 rw [ownTree, ownT_tup, hts, Option.bind_some, g1, Option.bind_some, Option.bind_some, if_pos hn]
theorem ret_agg {ty : Nat} {cty : List Nat} {raw cells : List AV} (hs : Sep H L) (hty : ∃ i, ti0 ty = some i ∧ i.cty = cty) (hr : OwnR L raw cty cells L') (hok : okLW (okW ti0 E0.tp 7) cty cells) : ownTree ti0 E0.tp ty H (.agg raw) = some (.agg cells) := by
 obtain ⟨i, e1, rfl⟩ := hty
 obtain ⟨I, h1, h2⟩ := hs
 obtain ⟨J, R, g1, g2, g3⟩ := hr.sound h1 7 hok
 have hn := (List.nodup_append.1 (g3.nodup_iff.1 h2)).1
 rw [ownTree, ownT_agg, e1, Option.bind_some, g1, Option.bind_some, Option.bind_some, if_pos hn]
theorem ret_own {ty : Nat} {x t : AV} (hs : Sep H L) (hp : Pk L (.own x ty t) L') : ownTree ti0 E0.tp ty H x = some t := by
 obtain ⟨_, h1, I, h2, h3⟩ := hs.own hp
 rw [ownTree, own_dep 6 8 ty x t I h2 (okW_le h1 (by decide)), Option.bind_some, if_pos h3]
theorem g_ret {G : Option AV → Prop} {ty : Nat} {x t : AV} (e : ownTree ti0 E0.tp ty H x = some t) (h : G (some t)) : Gd G (ownTree ti0 E0.tp ty H x) := by
 rw [e]
 exact h
end
end Go.Proofs.YtdameggfgnpehaaGreatDoor.Abs
set_option linter.unusedVariables false
set_option maxRecDepth 100000
namespace Go.Proofs.YtdameggfgnpehaaGreatDoor.Abs
open Go
variable {β : Type}
theorem okAg {d ty : Nat} {cty : List Nat} {cs : List AV} (hty : ∃ i, ti0 ty = some i ∧ i.cty = cty) (h : okLW (okW ti0 E0.tp d) cty cs) : okW ti0 E0.tp (d + 1) ty (.agg cs) := by
 obtain ⟨i, hi, rfl⟩ := hty
 exact ⟨i, hi, h⟩
theorem okNl {d ty : Nat} (h : ∃ i j, ti0 ty = some i ∧ ti0 i.elem = some j) : okW ti0 E0.tp (d + 1) ty (.ro 0 []) := by
 obtain ⟨i, j, h1, h2⟩ := h
 exact ⟨i, j, h1, h2, by simp, by simp [okLW]⟩
theorem Gd.both {G : Option β → Prop} {a b : Option β} (h1 : Gd G a) (h2 : a = b) : Gd G (pBoth a b) := by
 rw [pBoth_eq rfl h2.symm]
 exact h1
theorem g_neg {G : Option β → Prop} {K : AV → Option β} {a : Int} (h0 : -9223372036854775808 ≤ -a) (h1 : -a ≤ 9223372036854775807) (h : Gd G (K (.sc (.int .i64 (-a))))) : Gd G (pUn .neg (.sc (.int .i64 a)) fun t => K t) := by
 refine g_congr ?_ h
 show K (.sc (.int .i64 (IntKind.i64.wrap (0 - a)))) = _
 rw [wrap64 _ (by omega) (by omega), Int.zero_sub]
theorem okB6 (s : ByteArray) : okW ti0 E0.tp 6 43 (bytesC s) := okW_bytes (d := 4) tyByteS s
theorem okB5 (s : ByteArray) : okW ti0 E0.tp 5 43 (bytesC s) := okW_bytes (d := 3) tyByteS s
theorem okI6 (l : List Int) : okW ti0 E0.tp 6 26 (intsC l) := okW_flat (d := 4) (fun z : Int => .int .i64 z) tyIntS l
theorem okI5 (l : List Int) : okW ti0 E0.tp 5 26 (intsC l) := okW_flat (d := 3) (fun z : Int => .int .i64 z) tyIntS l
theorem okRMsg (l : List MsgV) : okW ti0 E0.tp 6 31 (rowsC encMsg l) := okW_rows (d := 5) lenMsg ⟨_, _, rfl, rfl, rfl, rfl⟩ (okWMsg 3) l
theorem okR5Msg (l : List MsgV) : okW ti0 E0.tp 5 31 (rowsC encMsg l) := okW_rows (d := 4) lenMsg ⟨_, _, rfl, rfl, rfl, rfl⟩ (okWMsg 2) l
theorem okRFlight (l : List FlightV) : okW ti0 E0.tp 6 30 (rowsC encFlight l) := okW_rows (d := 5) lenFlight ⟨_, _, rfl, rfl, rfl, rfl⟩ (okWFlight 3) l
theorem okR5Flight (l : List FlightV) : okW ti0 E0.tp 5 30 (rowsC encFlight l) := okW_rows (d := 4) lenFlight ⟨_, _, rfl, rfl, rfl, rfl⟩ (okWFlight 2) l
end Go.Proofs.YtdameggfgnpehaaGreatDoor.Abs
set_option linter.unusedVariables false
set_option linter.unusedSimpArgs false
set_option maxRecDepth 100000
set_option maxHeartbeats 1600000
namespace Go.Proofs.YtdameggfgnpehaaGreatDoor.Abs
open Go
theorem smSC (s : SessV) (h : wtSess s ≤ 1048576) : smSessC s := by
 have h2 := smwSess s h
 exact ⟨⟨⟨h2.1.1, fun y hy => (h2.1.2 y hy).1⟩, ⟨h2.2.1.1, fun y hy => (h2.2.1.2 y hy).1⟩⟩, h2.2.2.1⟩
theorem out_wt (s : SessV) (h : wtSess s ≤ 1048576) : wtOut s.fO ≤ 1048576 := (sess_hyp s h).2.1
def vLeave (s : SessV) : SessV := if vSessOk s && !s.fClean then { s with fConn := -1, fGen := 0 } else s
def vTake (s : SessV) (c : Bool) (cn g : Int) : SessV := if vSessOk s && vPlace c cn g then { s with fClean := c, fConn := cn, fGen := g } else s
def vSessPush (s : SessV) (b : Int) (m : MsgV) : SessV := if vSessOk s && decide (s.fBorn = b) then { s with fO := vOutPush s.fO m } else s
def vSessPushC (s : SessV) (b : Int) (m : MsgV) : Int := if vSessOk s && decide (s.fBorn = b) then (if vOutPushC s.fO m = 2 ∧ s.fConn = -1 then 1 else vOutPushC s.fO m) else 3
theorem sess_place (s : SessV) (c : Bool) (cn g : Int) (h : vSessOk s = true) : vSessOk { s with fClean := c, fConn := cn, fGen := g } = vPlace c cn g := by
 unfold vSessOk at h ⊢
 simp only [Bool.and_eq_true] at h
 obtain ⟨⟨⟨⟨h1, h2⟩, h3⟩, h4⟩, h5⟩ := h
 simp only [h1, h2, h4, h5, Bool.true_and, Bool.and_true]
theorem specF_Leave (n : Nat) (hn : 1048576 < n) (x0 : SessV) (k0 : okSess x0) (b0 : wtSess x0 ≤ 1048576) : tree E0 (n + 12) 35 12 [.agg (encSess x0)] = some (.agg (encSess (vLeave x0))) := by
 rw [tree_def, f12_eq, f12]
 refine tree_gd (G := (· = _)) ?_
 try simp only [PR_box, PR_new, PR_newSl, PR_fadr, PR_load, PR_store, PR_bin, PR_binB, PR_binA, PR_un, PR_cond, PR_guard, PR_pick, PR_len, PR_lenS, PR_iadr, PR_idx, PR_slice, PR_sliceS, PR_fill, PR_make, PR_app, PR_appS, PR_cvI, PR_cvSS, PR_cvBS, PR_cvSB, PR_extr, PR_nil, PR_clear, PR_fld]
 have s0 : Sep [] [] := sep_nil
 refine g_box s0 (cells_fl (flSess _)) fun i1 H s2 => ?_
 refine g_new s2 fun i3 H s4 => ?_
 refine g_ldW s4 (.there (.here)) rfl ?_
 refine g_callA s4 rfl (.aggF (flSess _) .nil) (l15CopyF (n + 6) (by omega) x0 (smSC x0 b0)) ⟨_, rfl, rfl⟩ (ins_sc (ins_sc (ins_sc (ins_sc (ins_sc (ins_sc (ins_ro (ty := 30) rfl (okRFlight x0.fO.fFl) (ins_ro (ty := 31) rfl (okRMsg x0.fO.fQ) (ins_ro (ty := 26) rfl (okI6 x0.fIn) ins_nil))))))))) ?_
 rintro _ _ H ⟨_, rfl, ⟨_, rfl, ⟨_, rfl, ⟨_, rfl, ⟨_, rfl, ⟨_, rfl, ⟨x7, _, _, lx7, rfl, rfl, ⟨x6, _, _, lx6, rfl, rfl, ⟨x5, _, _, lx5, rfl, rfl, ⟨rfl, rfl⟩⟩⟩⟩⟩⟩⟩⟩⟩⟩ s8
 simp only [List.nil_append, List.cons_append] at s8
 refine g_new s8 fun i9 H s10 => ?_
 refine g_st (cs' := [.sc (.string x0.fClient), .sc (.int .i64 x0.fBorn), .sc (.bool x0.fClean), .sc (.int .i64 x0.fConn), .sc (.int .i64 x0.fGen), .sc (.int .i64 x0.fO.fLast), x7, x6, x5]) s10 (.here) (cells_agg (lf_c rfl (lf_c rfl (lf_c rfl (lf_c rfl (lf_c rfl (lf_c rfl (lf_c lx7 (lf_c lx6 (lf_c lx5 rfl)))))))))) rfl (Nat.le_of_ble_eq_true rfl) rfl fun H s11 => ?_
 refine g_ldW s11 (.there (.there (.there (.there (.there (.here)))))) rfl ?_
 refine g_callS (v := (.bool (vSessOk x0))) s11 rfl (.aggF (flSess _) .nil) (specSessF n (by omega) _ x0 (sess_hyp x0 b0).1 (sess_hyp x0 b0).2.1 (sess_hyp x0 b0).2.2) ?_
 refine w_split ((vSessOk x0)) (fun h12 => ?_) (fun h12 => ?_)
 ·refine g_gY h12 ?_
  refine g_fadr (o' := 2) rfl ?_
  refine g_gY h12 ?_
  refine g_ld (c := .sc (.bool x0.fClean)) s11 (.there (.there (.there (.there (.there (.here)))))) rfl ?_
  refine g_gY h12 ?_
  refine g_not ?_
  refine g_pT h12 ?_
  refine g_letJ ?_
  refine w_split (x0.fClean) (fun h13 => ?_) (fun h13 => ?_)
  ·refine g_cF (nF h13) ?_
   refine g_ldW s11 (.here) rfl ?_
   refine g_st (cs' := [.sc (.string x0.fClient), .sc (.int .i64 x0.fBorn), .sc (.bool x0.fClean), .sc (.int .i64 x0.fConn), .sc (.int .i64 x0.fGen), .sc (.int .i64 x0.fO.fLast), x7, x6, x5]) s11 (.there (.there (.there (.there (.here))))) (cells_agg (lf_c rfl (lf_c rfl (lf_c rfl (lf_c rfl (lf_c rfl (lf_c rfl (lf_c lx7 (lf_c lx6 (lf_c lx5 rfl)))))))))) rfl (Nat.le_of_ble_eq_true rfl) rfl fun H s14 => ?_
   refine g_ldW s14 (.here) rfl ?_
   refine g_ret (ret_agg s14 ⟨_, rfl, rfl⟩ (.sc (.sc (.sc (.sc (.sc (.sc (.own (.there (.there (.there (.there (.here))))) (.own (.there (.there (.there (.here)))) (.own (.there (.there (.here))) .nil))))))))) ⟨trivial, ⟨trivial, ⟨trivial, ⟨trivial, ⟨trivial, ⟨trivial, ⟨(okW_le (okRFlight x0.fO.fFl) (by decide)), ⟨(okW_le (okRMsg x0.fO.fQ) (by decide)), ⟨(okW_le (okI6 x0.fIn) (by decide)), trivial⟩⟩⟩⟩⟩⟩⟩⟩⟩) ?_
   have e15 : vLeave x0 = (⟨x0.fClient, x0.fBorn, x0.fClean, x0.fConn, x0.fGen, ⟨x0.fO.fLast, x0.fO.fFl, x0.fO.fQ⟩, x0.fIn⟩ : SessV) := by
    clear s0 s2 s4 s8 s10 s11 s14
    unfold vLeave
    (repeat' split) <;> first | rfl | (exfalso; simp_all []; done) | (simp_all []; done)
   rw [e15]
   first | done | rfl
  ·refine g_cT (nT h13) ?_
   refine g_fadr (o' := 3) rfl ?_
   refine g_st (cs' := [.sc (.string x0.fClient), .sc (.int .i64 x0.fBorn), .sc (.bool x0.fClean), .sc (.int .i64 (-1)), .sc (.int .i64 x0.fGen), .sc (.int .i64 x0.fO.fLast), x7, x6, x5]) s11 (.here) (cells_leaf rfl) rfl (Nat.le_of_ble_eq_true rfl) rfl fun H s16 => ?_
   refine g_fadr (o' := 4) rfl ?_
   refine g_st (cs' := [.sc (.string x0.fClient), .sc (.int .i64 x0.fBorn), .sc (.bool x0.fClean), .sc (.int .i64 (-1)), .sc (.int .i64 0), .sc (.int .i64 x0.fO.fLast), x7, x6, x5]) s16 (.here) (cells_leaf rfl) rfl (Nat.le_of_ble_eq_true rfl) rfl fun H s17 => ?_
   refine g_ldW s17 (.here) rfl ?_
   refine g_st (cs' := [.sc (.string x0.fClient), .sc (.int .i64 x0.fBorn), .sc (.bool x0.fClean), .sc (.int .i64 (-1)), .sc (.int .i64 0), .sc (.int .i64 x0.fO.fLast), x7, x6, x5]) s17 (.there (.there (.there (.there (.here))))) (cells_agg (lf_c rfl (lf_c rfl (lf_c rfl (lf_c rfl (lf_c rfl (lf_c rfl (lf_c lx7 (lf_c lx6 (lf_c lx5 rfl)))))))))) rfl (Nat.le_of_ble_eq_true rfl) rfl fun H s18 => ?_
   refine g_ldW s18 (.here) rfl ?_
   refine g_ret (ret_agg s18 ⟨_, rfl, rfl⟩ (.sc (.sc (.sc (.sc (.sc (.sc (.own (.there (.there (.there (.there (.here))))) (.own (.there (.there (.there (.here)))) (.own (.there (.there (.here))) .nil))))))))) ⟨trivial, ⟨trivial, ⟨trivial, ⟨trivial, ⟨trivial, ⟨trivial, ⟨(okW_le (okRFlight x0.fO.fFl) (by decide)), ⟨(okW_le (okRMsg x0.fO.fQ) (by decide)), ⟨(okW_le (okI6 x0.fIn) (by decide)), trivial⟩⟩⟩⟩⟩⟩⟩⟩⟩) ?_
   have e19 : vLeave x0 = (⟨x0.fClient, x0.fBorn, x0.fClean, (-1), 0, ⟨x0.fO.fLast, x0.fO.fFl, x0.fO.fQ⟩, x0.fIn⟩ : SessV) := by
    clear s0 s2 s4 s8 s10 s11 s16 s17 s18
    unfold vLeave
    (repeat' split) <;> first | rfl | (exfalso; simp_all []; done) | (simp_all []; done)
   rw [e19]
   first | done | rfl
 ·refine g_gN h12 ?_
  refine g_gN h12 ?_
  refine g_gN h12 ?_
  refine g_pF h12 ?_
  refine g_letJ ?_
  refine g_cF rfl ?_
  refine g_ldW s11 (.here) rfl ?_
  refine g_st (cs' := [.sc (.string x0.fClient), .sc (.int .i64 x0.fBorn), .sc (.bool x0.fClean), .sc (.int .i64 x0.fConn), .sc (.int .i64 x0.fGen), .sc (.int .i64 x0.fO.fLast), x7, x6, x5]) s11 (.there (.there (.there (.there (.here))))) (cells_agg (lf_c rfl (lf_c rfl (lf_c rfl (lf_c rfl (lf_c rfl (lf_c rfl (lf_c lx7 (lf_c lx6 (lf_c lx5 rfl)))))))))) rfl (Nat.le_of_ble_eq_true rfl) rfl fun H s20 => ?_
  refine g_ldW s20 (.here) rfl ?_
  refine g_ret (ret_agg s20 ⟨_, rfl, rfl⟩ (.sc (.sc (.sc (.sc (.sc (.sc (.own (.there (.there (.there (.there (.here))))) (.own (.there (.there (.there (.here)))) (.own (.there (.there (.here))) .nil))))))))) ⟨trivial, ⟨trivial, ⟨trivial, ⟨trivial, ⟨trivial, ⟨trivial, ⟨(okW_le (okRFlight x0.fO.fFl) (by decide)), ⟨(okW_le (okRMsg x0.fO.fQ) (by decide)), ⟨(okW_le (okI6 x0.fIn) (by decide)), trivial⟩⟩⟩⟩⟩⟩⟩⟩⟩) ?_
  have e21 : vLeave x0 = (⟨x0.fClient, x0.fBorn, x0.fClean, x0.fConn, x0.fGen, ⟨x0.fO.fLast, x0.fO.fFl, x0.fO.fQ⟩, x0.fIn⟩ : SessV) := by
   clear s0 s2 s4 s8 s10 s11 s20
   unfold vLeave
   (repeat' split) <;> first | rfl | (exfalso; simp_all []; done) | (simp_all []; done)
  rw [e21]
  first | done | rfl
theorem specF_Take (n : Nat) (hn : 1048576 < n) (x0 : SessV) (x1 : Bool) (x2 x3 : Int) (k0 : okSess x0) (k1 : True) (k2 : okI x2) (k3 : okI x3) (b0 : wtSess x0 ≤ 1048576) : tree E0 (n + 12) 35 18 [.agg (encSess x0), .sc (.bool x1), .sc (.int .i64 x2), .sc (.int .i64 x3)] = some (.agg (encSess (vTake x0 x1 x2 x3))) := by
 rw [tree_def, f18_eq, f18]
 refine tree_gd (G := (· = _)) ?_
 try simp only [PR_box, PR_new, PR_newSl, PR_fadr, PR_load, PR_store, PR_bin, PR_binB, PR_binA, PR_un, PR_cond, PR_guard, PR_pick, PR_len, PR_lenS, PR_iadr, PR_idx, PR_slice, PR_sliceS, PR_fill, PR_make, PR_app, PR_appS, PR_cvI, PR_cvSS, PR_cvBS, PR_cvSB, PR_extr, PR_nil, PR_clear, PR_fld]
 have s0 : Sep [] [] := sep_nil
 refine g_box s0 (cells_fl (flSess _)) fun i1 H s2 => ?_
 refine g_new s2 fun i3 H s4 => ?_
 refine g_ldW s4 (.there (.here)) rfl ?_
 refine g_callA s4 rfl (.aggF (flSess _) .nil) (l15CopyF (n + 6) (by omega) x0 (smSC x0 b0)) ⟨_, rfl, rfl⟩ (ins_sc (ins_sc (ins_sc (ins_sc (ins_sc (ins_sc (ins_ro (ty := 30) rfl (okRFlight x0.fO.fFl) (ins_ro (ty := 31) rfl (okRMsg x0.fO.fQ) (ins_ro (ty := 26) rfl (okI6 x0.fIn) ins_nil))))))))) ?_
 rintro _ _ H ⟨_, rfl, ⟨_, rfl, ⟨_, rfl, ⟨_, rfl, ⟨_, rfl, ⟨_, rfl, ⟨x7, _, _, lx7, rfl, rfl, ⟨x6, _, _, lx6, rfl, rfl, ⟨x5, _, _, lx5, rfl, rfl, ⟨rfl, rfl⟩⟩⟩⟩⟩⟩⟩⟩⟩⟩ s8
 simp only [List.nil_append, List.cons_append] at s8
 refine g_new s8 fun i9 H s10 => ?_
 refine g_st (cs' := [.sc (.string x0.fClient), .sc (.int .i64 x0.fBorn), .sc (.bool x0.fClean), .sc (.int .i64 x0.fConn), .sc (.int .i64 x0.fGen), .sc (.int .i64 x0.fO.fLast), x7, x6, x5]) s10 (.here) (cells_agg (lf_c rfl (lf_c rfl (lf_c rfl (lf_c rfl (lf_c rfl (lf_c rfl (lf_c lx7 (lf_c lx6 (lf_c lx5 rfl)))))))))) rfl (Nat.le_of_ble_eq_true rfl) rfl fun H s11 => ?_
 refine g_fadr (o' := 2) rfl ?_
 refine g_st (cs' := [.sc (.string x0.fClient), .sc (.int .i64 x0.fBorn), .sc (.bool x1), .sc (.int .i64 x0.fConn), .sc (.int .i64 x0.fGen), .sc (.int .i64 x0.fO.fLast), x7, x6, x5]) s11 (.here) (cells_leaf rfl) rfl (Nat.le_of_ble_eq_true rfl) rfl fun H s12 => ?_
 refine g_fadr (o' := 3) rfl ?_
 refine g_st (cs' := [.sc (.string x0.fClient), .sc (.int .i64 x0.fBorn), .sc (.bool x1), .sc (.int .i64 x2), .sc (.int .i64 x0.fGen), .sc (.int .i64 x0.fO.fLast), x7, x6, x5]) s12 (.here) (cells_leaf rfl) rfl (Nat.le_of_ble_eq_true rfl) rfl fun H s13 => ?_
 refine g_fadr (o' := 4) rfl ?_
 refine g_st (cs' := [.sc (.string x0.fClient), .sc (.int .i64 x0.fBorn), .sc (.bool x1), .sc (.int .i64 x2), .sc (.int .i64 x3), .sc (.int .i64 x0.fO.fLast), x7, x6, x5]) s13 (.here) (cells_leaf rfl) rfl (Nat.le_of_ble_eq_true rfl) rfl fun H s14 => ?_
 refine g_ldW s14 (.there (.there (.there (.there (.there (.here)))))) rfl ?_
 refine g_callS (v := (.bool (vSessOk x0))) s14 rfl (.aggF (flSess _) .nil) (specSessF n (by omega) _ x0 (sess_hyp x0 b0).1 (sess_hyp x0 b0).2.1 (sess_hyp x0 b0).2.2) ?_
 refine g_not ?_
 refine w_split ((vSessOk x0)) (fun h15 => ?_) (fun h15 => ?_)
 ·refine g_gY (nF h15) ?_
  refine g_ldW s14 (.here) rfl ?_
  refine g_gY (nF h15) ?_
  refine g_callS (v := (.bool (vSessOk ({ x0 with fClean := x1, fConn := x2, fGen := x3 })))) s14 rfl (.agg (.cons .sc (.cons .sc (.cons .sc (.cons .sc (.cons .sc (.cons .sc (.cons (.own (by decide) (.there (.there (.there (.here))))) (.cons (.own (by decide) (.there (.there (.here)))) (.cons (.own (by decide) (.there (.here))) .nil))))))))) .nil) (specSessF n (by omega) _ ({ x0 with fClean := x1, fConn := x2, fGen := x3 }) (sess_hyp ({ x0 with fClean := x1, fConn := x2, fGen := x3 }) b0).1 (sess_hyp ({ x0 with fClean := x1, fConn := x2, fGen := x3 }) b0).2.1 (sess_hyp ({ x0 with fClean := x1, fConn := x2, fGen := x3 }) b0).2.2) ?_
  refine g_gY (nF h15) ?_
  refine g_not ?_
  refine g_pF (nF h15) ?_
  refine w_split ((vSessOk ({ x0 with fClean := x1, fConn := x2, fGen := x3 }))) (fun h16 => ?_) (fun h16 => ?_)
  ·refine g_cF (nF h16) ?_
   refine g_ldW s14 (.here) rfl ?_
   refine g_st (cs' := [.sc (.string x0.fClient), .sc (.int .i64 x0.fBorn), .sc (.bool x1), .sc (.int .i64 x2), .sc (.int .i64 x3), .sc (.int .i64 x0.fO.fLast), x7, x6, x5]) s14 (.there (.there (.there (.there (.here))))) (cells_agg (lf_c rfl (lf_c rfl (lf_c rfl (lf_c rfl (lf_c rfl (lf_c rfl (lf_c lx7 (lf_c lx6 (lf_c lx5 rfl)))))))))) rfl (Nat.le_of_ble_eq_true rfl) rfl fun H s17 => ?_
   refine g_ldW s17 (.here) rfl ?_
   refine g_ret (ret_agg s17 ⟨_, rfl, rfl⟩ (.sc (.sc (.sc (.sc (.sc (.sc (.own (.there (.there (.there (.there (.here))))) (.own (.there (.there (.there (.here)))) (.own (.there (.there (.here))) .nil))))))))) ⟨trivial, ⟨trivial, ⟨trivial, ⟨trivial, ⟨trivial, ⟨trivial, ⟨(okW_le (okRFlight x0.fO.fFl) (by decide)), ⟨(okW_le (okRMsg x0.fO.fQ) (by decide)), ⟨(okW_le (okI6 x0.fIn) (by decide)), trivial⟩⟩⟩⟩⟩⟩⟩⟩⟩) ?_
   have e18 : vTake x0 x1 x2 x3 = (⟨x0.fClient, x0.fBorn, x1, x2, x3, ⟨x0.fO.fLast, x0.fO.fFl, x0.fO.fQ⟩, x0.fIn⟩ : SessV) := by
    clear s0 s2 s4 s8 s10 s11 s12 s13 s14 s17
    unfold vTake
    (repeat' split) <;> first | rfl | (exfalso; simp_all [sess_place]; done) | (simp_all [sess_place]; done)
   rw [e18]
   first | done | rfl
  ·refine g_cT (nT h16) ?_
   refine g_ldW s14 (.there (.there (.there (.there (.there (.here)))))) rfl ?_
   refine g_callA s14 rfl (.aggF (flSess _) .nil) (l15CopyF (n + 6) (by omega) x0 (smSC x0 b0)) ⟨_, rfl, rfl⟩ (ins_sc (ins_sc (ins_sc (ins_sc (ins_sc (ins_sc (ins_ro (ty := 30) rfl (okRFlight x0.fO.fFl) (ins_ro (ty := 31) rfl (okRMsg x0.fO.fQ) (ins_ro (ty := 26) rfl (okI6 x0.fIn) ins_nil))))))))) ?_
   rintro _ _ H ⟨_, rfl, ⟨_, rfl, ⟨_, rfl, ⟨_, rfl, ⟨_, rfl, ⟨_, rfl, ⟨x21, _, _, lx21, rfl, rfl, ⟨x20, _, _, lx20, rfl, rfl, ⟨x19, _, _, lx19, rfl, rfl, ⟨rfl, rfl⟩⟩⟩⟩⟩⟩⟩⟩⟩⟩ s22
   simp only [List.nil_append, List.cons_append] at s22
   refine g_st (cs' := [.sc (.string x0.fClient), .sc (.int .i64 x0.fBorn), .sc (.bool x0.fClean), .sc (.int .i64 x0.fConn), .sc (.int .i64 x0.fGen), .sc (.int .i64 x0.fO.fLast), x21, x20, x19]) s22 (.there (.there (.there (.there (.there (.there (.there (.here)))))))) (cells_agg (lf_c rfl (lf_c rfl (lf_c rfl (lf_c rfl (lf_c rfl (lf_c rfl (lf_c lx21 (lf_c lx20 (lf_c lx19 rfl)))))))))) rfl (Nat.le_of_ble_eq_true rfl) rfl fun H s23 => ?_
   refine g_ldW s23 (.here) rfl ?_
   refine g_ret (ret_agg s23 ⟨_, rfl, rfl⟩ (.sc (.sc (.sc (.sc (.sc (.sc (.own (.there (.there (.there (.here)))) (.own (.there (.there (.here))) (.own (.there (.here)) .nil))))))))) ⟨trivial, ⟨trivial, ⟨trivial, ⟨trivial, ⟨trivial, ⟨trivial, ⟨(okW_le (okRFlight x0.fO.fFl) (by decide)), ⟨(okW_le (okRMsg x0.fO.fQ) (by decide)), ⟨(okW_le (okI6 x0.fIn) (by decide)), trivial⟩⟩⟩⟩⟩⟩⟩⟩⟩) ?_
   have e24 : vTake x0 x1 x2 x3 = (⟨x0.fClient, x0.fBorn, x0.fClean, x0.fConn, x0.fGen, ⟨x0.fO.fLast, x0.fO.fFl, x0.fO.fQ⟩, x0.fIn⟩ : SessV) := by
    clear s0 s2 s4 s8 s10 s11 s12 s13 s14 s22 s23
    unfold vTake
    (repeat' split) <;> first | rfl | (exfalso; simp_all [sess_place]; done) | (simp_all [sess_place]; done)
   rw [e24]
   first | done | rfl
 ·refine g_gN (nT h15) ?_
  refine g_gN (nT h15) ?_
  refine g_gN (nT h15) ?_
  refine g_pT (nT h15) ?_
  refine g_cT rfl ?_
  refine g_ldW s14 (.there (.there (.there (.there (.there (.here)))))) rfl ?_
  refine g_callA s14 rfl (.aggF (flSess _) .nil) (l15CopyF (n + 6) (by omega) x0 (smSC x0 b0)) ⟨_, rfl, rfl⟩ (ins_sc (ins_sc (ins_sc (ins_sc (ins_sc (ins_sc (ins_ro (ty := 30) rfl (okRFlight x0.fO.fFl) (ins_ro (ty := 31) rfl (okRMsg x0.fO.fQ) (ins_ro (ty := 26) rfl (okI6 x0.fIn) ins_nil))))))))) ?_
  rintro _ _ H ⟨_, rfl, ⟨_, rfl, ⟨_, rfl, ⟨_, rfl, ⟨_, rfl, ⟨_, rfl, ⟨x27, _, _, lx27, rfl, rfl, ⟨x26, _, _, lx26, rfl, rfl, ⟨x25, _, _, lx25, rfl, rfl, ⟨rfl, rfl⟩⟩⟩⟩⟩⟩⟩⟩⟩⟩ s28
  simp only [List.nil_append, List.cons_append] at s28
  refine g_st (cs' := [.sc (.string x0.fClient), .sc (.int .i64 x0.fBorn), .sc (.bool x0.fClean), .sc (.int .i64 x0.fConn), .sc (.int .i64 x0.fGen), .sc (.int .i64 x0.fO.fLast), x27, x26, x25]) s28 (.there (.there (.there (.there (.there (.there (.there (.here)))))))) (cells_agg (lf_c rfl (lf_c rfl (lf_c rfl (lf_c rfl (lf_c rfl (lf_c rfl (lf_c lx27 (lf_c lx26 (lf_c lx25 rfl)))))))))) rfl (Nat.le_of_ble_eq_true rfl) rfl fun H s29 => ?_
  refine g_ldW s29 (.here) rfl ?_
  refine g_ret (ret_agg s29 ⟨_, rfl, rfl⟩ (.sc (.sc (.sc (.sc (.sc (.sc (.own (.there (.there (.there (.here)))) (.own (.there (.there (.here))) (.own (.there (.here)) .nil))))))))) ⟨trivial, ⟨trivial, ⟨trivial, ⟨trivial, ⟨trivial, ⟨trivial, ⟨(okW_le (okRFlight x0.fO.fFl) (by decide)), ⟨(okW_le (okRMsg x0.fO.fQ) (by decide)), ⟨(okW_le (okI6 x0.fIn) (by decide)), trivial⟩⟩⟩⟩⟩⟩⟩⟩⟩) ?_
  have e30 : vTake x0 x1 x2 x3 = (⟨x0.fClient, x0.fBorn, x0.fClean, x0.fConn, x0.fGen, ⟨x0.fO.fLast, x0.fO.fFl, x0.fO.fQ⟩, x0.fIn⟩ : SessV) := by
   clear s0 s2 s4 s8 s10 s11 s12 s13 s14 s28 s29
   unfold vTake
   (repeat' split) <;> first | rfl | (exfalso; simp_all [sess_place]; done) | (simp_all [sess_place]; done)
  rw [e30]
  first | done | rfl
theorem specF_SessPush (n : Nat) (hn : 1048576 < n) (x0 : SessV) (x1 : Int) (x2 : MsgV) (k0 : okSess x0) (k1 : okI x1) (k2 : okMsg x2) (b0 : wtSess x0 ≤ 1048576) (b2 : wtMsg x2 ≤ 1048576) : tree E0 (n + 13) 47 21 [.agg (encSess x0), .sc (.int .i64 x1), .agg (encMsg x2)] = some (.tup [.agg (encSess (vSessPush x0 x1 x2)), .sc (.int .i64 (vSessPushC x0 x1 x2))]) := by
 rw [tree_def, f21_eq, f21]
 refine tree_gd (G := (· = _)) ?_
 try simp only [PR_box, PR_new, PR_newSl, PR_fadr, PR_load, PR_store, PR_bin, PR_binB, PR_binA, PR_un, PR_cond, PR_guard, PR_pick, PR_len, PR_lenS, PR_iadr, PR_idx, PR_slice, PR_sliceS, PR_fill, PR_make, PR_app, PR_appS, PR_cvI, PR_cvSS, PR_cvBS, PR_cvSB, PR_extr, PR_nil, PR_clear, PR_fld]
 have s0 : Sep [] [] := sep_nil
 refine g_box s0 (cells_fl (flSess _)) fun i1 H s2 => ?_
 refine g_box s2 (cells_fl (flMsg _)) fun i3 H s4 => ?_
 refine g_new s4 fun i5 H s6 => ?_
 refine g_ldW s6 (.there (.there (.here))) rfl ?_
 refine g_callA s6 rfl (.aggF (flSess _) .nil) (l15CopyF (n + 7) (by omega) x0 (smSC x0 b0)) ⟨_, rfl, rfl⟩ (ins_sc (ins_sc (ins_sc (ins_sc (ins_sc (ins_sc (ins_ro (ty := 30) rfl (okRFlight x0.fO.fFl) (ins_ro (ty := 31) rfl (okRMsg x0.fO.fQ) (ins_ro (ty := 26) rfl (okI6 x0.fIn) ins_nil))))))))) ?_
 rintro _ _ H ⟨_, rfl, ⟨_, rfl, ⟨_, rfl, ⟨_, rfl, ⟨_, rfl, ⟨_, rfl, ⟨x9, _, _, lx9, rfl, rfl, ⟨x8, _, _, lx8, rfl, rfl, ⟨x7, _, _, lx7, rfl, rfl, ⟨rfl, rfl⟩⟩⟩⟩⟩⟩⟩⟩⟩⟩ s10
 simp only [List.nil_append, List.cons_append] at s10
 refine g_new s10 fun i11 H s12 => ?_
 refine g_st (cs' := [.sc (.string x0.fClient), .sc (.int .i64 x0.fBorn), .sc (.bool x0.fClean), .sc (.int .i64 x0.fConn), .sc (.int .i64 x0.fGen), .sc (.int .i64 x0.fO.fLast), x9, x8, x7]) s12 (.here) (cells_agg (lf_c rfl (lf_c rfl (lf_c rfl (lf_c rfl (lf_c rfl (lf_c rfl (lf_c lx9 (lf_c lx8 (lf_c lx7 rfl)))))))))) rfl (Nat.le_of_ble_eq_true rfl) rfl fun H s13 => ?_
 refine g_ldW s13 (.there (.there (.there (.there (.there (.there (.here))))))) rfl ?_
 refine g_callS (v := (.bool (vSessOk x0))) s13 rfl (.aggF (flSess _) .nil) (specSessF (n + 1) (by omega) _ x0 (sess_hyp x0 b0).1 (sess_hyp x0 b0).2.1 (sess_hyp x0 b0).2.2) ?_
 refine g_not ?_
 refine w_split ((vSessOk x0)) (fun h14 => ?_) (fun h14 => ?_)
 ·refine g_gY (nF h14) ?_
  refine g_fadr (o' := 1) rfl ?_
  refine g_gY (nF h14) ?_
  refine g_ld (c := .sc (.int .i64 x0.fBorn)) s13 (.there (.there (.there (.there (.there (.there (.here))))))) rfl ?_
  refine g_gY (nF h14) ?_
  refine g_gY (nF h14) ?_
  refine g_neq ?_
  refine g_pF (nF h14) ?_
  refine w_split ((decide (x0.fBorn = x1))) (fun h15 => ?_) (fun h15 => ?_)
  ·refine g_cF (nF h15) ?_
   refine g_fadr (o' := 5) rfl ?_
   refine g_ldA (ds := encOut x0.fO) s13 (.there (.there (.there (.there (.there (.there (.here))))))) (Nat.le_of_ble_eq_true rfl) rfl ?_
   refine g_ldW s13 (.there (.there (.there (.there (.there (.here)))))) rfl ?_
   refine g_callT s13 rfl (.aggF (flOut _) (.aggF (flMsg _) .nil)) (specF_OutPush (n + 1) (by omega) x0.fO x2 (k0.2.2.2.2.2.1) k2 (out_wt x0 b0) b2) rfl (ins_agg ⟨_, rfl, rfl⟩ (ins_sc (ins_ro (ty := 30) rfl (okRFlight ((vOutPush x0.fO x2).fFl)) (ins_ro (ty := 31) rfl (okRMsg ((vOutPush x0.fO x2).fQ)) ins_nil))) (ins_sc ins_nil)) ?_
   rintro _ _ H ⟨_, _, _, _, rfl, rfl, ⟨_, rfl, ⟨x17, _, _, lx17, rfl, rfl, ⟨x16, _, _, lx16, rfl, rfl, ⟨rfl, rfl⟩⟩⟩⟩, ⟨_, rfl, ⟨rfl, rfl⟩⟩⟩ s18
   simp only [List.nil_append, List.cons_append] at s18
   refine g_extr (v := .agg [.sc (.int .i64 ((vOutPush x0.fO x2).fLast)), x17, x16]) rfl ?_
   refine g_extr (v := .sc (.int .i64 (vOutPushC x0.fO x2))) rfl ?_
   refine g_new s18 fun i19 H s20 => ?_
   refine g_st (cs' := [.sc (.int .i64 ((vOutPush x0.fO x2).fLast)), x17, x16]) s20 (.here) (cells_agg (lf_c rfl (lf_c lx17 (lf_c lx16 rfl)))) rfl (Nat.le_of_ble_eq_true rfl) rfl fun H s21 => ?_
   refine g_ldW s21 (.here) rfl ?_
   refine g_fadr (o' := 5) rfl ?_
   refine g_st (cs' := [.sc (.string x0.fClient), .sc (.int .i64 x0.fBorn), .sc (.bool x0.fClean), .sc (.int .i64 x0.fConn), .sc (.int .i64 x0.fGen), .sc (.int .i64 ((vOutPush x0.fO x2).fLast)), x17, x16, x7]) s21 (.there (.there (.there (.here)))) (cells_agg (lf_c rfl (lf_c lx17 (lf_c lx16 rfl)))) rfl (Nat.le_of_ble_eq_true rfl) rfl fun H s22 => ?_
   refine g_eql ?_
   refine w_split ((decide ((vOutPushC x0.fO x2) = 2))) (fun h23 => ?_) (fun h23 => ?_)
   ·refine g_gY h23 ?_
    refine g_fadr (o' := 3) rfl ?_
    refine g_gY h23 ?_
    refine g_ld (c := .sc (.int .i64 x0.fConn)) s22 (.there (.there (.there (.there (.there (.there (.there (.there (.there (.here)))))))))) rfl ?_
    refine g_gY h23 ?_
    refine g_eql ?_
    refine g_pT h23 ?_
    refine g_letJ ?_
    refine w_split ((decide (x0.fConn = (-1)))) (fun h24 => ?_) (fun h24 => ?_)
    ·refine g_cT h24 ?_
     refine g_ldW s22 (.here) rfl ?_
     refine g_st (cs' := [.sc (.string x0.fClient), .sc (.int .i64 x0.fBorn), .sc (.bool x0.fClean), .sc (.int .i64 x0.fConn), .sc (.int .i64 x0.fGen), .sc (.int .i64 ((vOutPush x0.fO x2).fLast)), x17, x16, x7]) s22 (.there (.there (.there (.there (.there (.there (.there (.here)))))))) (cells_agg (lf_c rfl (lf_c rfl (lf_c rfl (lf_c rfl (lf_c rfl (lf_c rfl (lf_c lx17 (lf_c lx16 (lf_c lx7 rfl)))))))))) rfl (Nat.le_of_ble_eq_true rfl) rfl fun H s25 => ?_
     refine g_ldW s25 (.here) rfl ?_
     refine g_ret (ret_tup s25 rfl (.agg ⟨_, rfl, rfl⟩ (.sc (.sc (.sc (.sc (.sc (.sc (.own (.there (.there (.there (.there (.here))))) (.own (.there (.there (.there (.here)))) (.own (.there (.there (.there (.here)))) .nil))))))))) (.sc .nil)) ⟨(okAg ⟨_, rfl, rfl⟩ ⟨trivial, ⟨trivial, ⟨trivial, ⟨trivial, ⟨trivial, ⟨trivial, ⟨(okW_le (okRFlight ((vOutPush x0.fO x2).fFl)) (by decide)), ⟨(okW_le (okRMsg ((vOutPush x0.fO x2).fQ)) (by decide)), ⟨(okW_le (okI6 x0.fIn) (by decide)), trivial⟩⟩⟩⟩⟩⟩⟩⟩⟩), ⟨trivial, trivial⟩⟩) ?_
     have e26 : vSessPush x0 x1 x2 = (⟨x0.fClient, x0.fBorn, x0.fClean, x0.fConn, x0.fGen, ⟨(vOutPush x0.fO x2).fLast, ((vOutPush x0.fO x2).fFl), ((vOutPush x0.fO x2).fQ)⟩, x0.fIn⟩ : SessV) := by
      clear s0 s2 s4 s6 s10 s12 s13 s18 s20 s21 s22 s25
      unfold vSessPush
      (repeat' split) <;> first | rfl | (exfalso; simp_all []; done) | (simp_all []; done)
     have e27 : vSessPushC x0 x1 x2 = 1 := by
      clear s0 s2 s4 s6 s10 s12 s13 s18 s20 s21 s22 s25
      unfold vSessPushC
      (repeat' split) <;> first | rfl | (exfalso; simp_all []; done) | (simp_all []; done)
     rw [e26, e27]
     first | done | rfl
    ·refine g_cF h24 ?_
     refine g_ldW s22 (.here) rfl ?_
     refine g_st (cs' := [.sc (.string x0.fClient), .sc (.int .i64 x0.fBorn), .sc (.bool x0.fClean), .sc (.int .i64 x0.fConn), .sc (.int .i64 x0.fGen), .sc (.int .i64 ((vOutPush x0.fO x2).fLast)), x17, x16, x7]) s22 (.there (.there (.there (.there (.there (.there (.there (.here)))))))) (cells_agg (lf_c rfl (lf_c rfl (lf_c rfl (lf_c rfl (lf_c rfl (lf_c rfl (lf_c lx17 (lf_c lx16 (lf_c lx7 rfl)))))))))) rfl (Nat.le_of_ble_eq_true rfl) rfl fun H s28 => ?_
     refine g_ldW s28 (.here) rfl ?_
     refine g_ret (ret_tup s28 rfl (.agg ⟨_, rfl, rfl⟩ (.sc (.sc (.sc (.sc (.sc (.sc (.own (.there (.there (.there (.there (.here))))) (.own (.there (.there (.there (.here)))) (.own (.there (.there (.there (.here)))) .nil))))))))) (.sc .nil)) ⟨(okAg ⟨_, rfl, rfl⟩ ⟨trivial, ⟨trivial, ⟨trivial, ⟨trivial, ⟨trivial, ⟨trivial, ⟨(okW_le (okRFlight ((vOutPush x0.fO x2).fFl)) (by decide)), ⟨(okW_le (okRMsg ((vOutPush x0.fO x2).fQ)) (by decide)), ⟨(okW_le (okI6 x0.fIn) (by decide)), trivial⟩⟩⟩⟩⟩⟩⟩⟩⟩), ⟨trivial, trivial⟩⟩) ?_
     have e29 : vSessPush x0 x1 x2 = (⟨x0.fClient, x0.fBorn, x0.fClean, x0.fConn, x0.fGen, ⟨(vOutPush x0.fO x2).fLast, ((vOutPush x0.fO x2).fFl), ((vOutPush x0.fO x2).fQ)⟩, x0.fIn⟩ : SessV) := by
      clear s0 s2 s4 s6 s10 s12 s13 s18 s20 s21 s22 s28
      unfold vSessPush
      (repeat' split) <;> first | rfl | (exfalso; simp_all []; done) | (simp_all []; done)
     have e30 : vSessPushC x0 x1 x2 = (vOutPushC x0.fO x2) := by
      clear s0 s2 s4 s6 s10 s12 s13 s18 s20 s21 s22 s28
      unfold vSessPushC
      (repeat' split) <;> first | rfl | (exfalso; simp_all []; done) | (simp_all []; done)
     rw [e29, e30]
     first | done | rfl
   ·refine g_gN h23 ?_
    refine g_gN h23 ?_
    refine g_gN h23 ?_
    refine g_pF h23 ?_
    refine g_letJ ?_
    refine g_cF rfl ?_
    refine g_ldW s22 (.here) rfl ?_
    refine g_st (cs' := [.sc (.string x0.fClient), .sc (.int .i64 x0.fBorn), .sc (.bool x0.fClean), .sc (.int .i64 x0.fConn), .sc (.int .i64 x0.fGen), .sc (.int .i64 ((vOutPush x0.fO x2).fLast)), x17, x16, x7]) s22 (.there (.there (.there (.there (.there (.there (.there (.here)))))))) (cells_agg (lf_c rfl (lf_c rfl (lf_c rfl (lf_c rfl (lf_c rfl (lf_c rfl (lf_c lx17 (lf_c lx16 (lf_c lx7 rfl)))))))))) rfl (Nat.le_of_ble_eq_true rfl) rfl fun H s31 => ?_
    refine g_ldW s31 (.here) rfl ?_
    refine g_ret (ret_tup s31 rfl (.agg ⟨_, rfl, rfl⟩ (.sc (.sc (.sc (.sc (.sc (.sc (.own (.there (.there (.there (.there (.here))))) (.own (.there (.there (.there (.here)))) (.own (.there (.there (.there (.here)))) .nil))))))))) (.sc .nil)) ⟨(okAg ⟨_, rfl, rfl⟩ ⟨trivial, ⟨trivial, ⟨trivial, ⟨trivial, ⟨trivial, ⟨trivial, ⟨(okW_le (okRFlight ((vOutPush x0.fO x2).fFl)) (by decide)), ⟨(okW_le (okRMsg ((vOutPush x0.fO x2).fQ)) (by decide)), ⟨(okW_le (okI6 x0.fIn) (by decide)), trivial⟩⟩⟩⟩⟩⟩⟩⟩⟩), ⟨trivial, trivial⟩⟩) ?_
    have e32 : vSessPush x0 x1 x2 = (⟨x0.fClient, x0.fBorn, x0.fClean, x0.fConn, x0.fGen, ⟨(vOutPush x0.fO x2).fLast, ((vOutPush x0.fO x2).fFl), ((vOutPush x0.fO x2).fQ)⟩, x0.fIn⟩ : SessV) := by
     clear s0 s2 s4 s6 s10 s12 s13 s18 s20 s21 s22 s31
     unfold vSessPush
     (repeat' split) <;> first | rfl | (exfalso; simp_all []; done) | (simp_all []; done)
    have e33 : vSessPushC x0 x1 x2 = (vOutPushC x0.fO x2) := by
     clear s0 s2 s4 s6 s10 s12 s13 s18 s20 s21 s22 s31
     unfold vSessPushC
     (repeat' split) <;> first | rfl | (exfalso; simp_all []; done) | (simp_all []; done)
    rw [e32, e33]
    first | done | rfl
  ·refine g_cT (nT h15) ?_
   refine g_ldW s13 (.here) rfl ?_
   refine g_st (cs' := [.sc (.string x0.fClient), .sc (.int .i64 x0.fBorn), .sc (.bool x0.fClean), .sc (.int .i64 x0.fConn), .sc (.int .i64 x0.fGen), .sc (.int .i64 x0.fO.fLast), x9, x8, x7]) s13 (.there (.there (.there (.there (.here))))) (cells_agg (lf_c rfl (lf_c rfl (lf_c rfl (lf_c rfl (lf_c rfl (lf_c rfl (lf_c lx9 (lf_c lx8 (lf_c lx7 rfl)))))))))) rfl (Nat.le_of_ble_eq_true rfl) rfl fun H s34 => ?_
   refine g_ldW s34 (.here) rfl ?_
   refine g_ret (ret_tup s34 rfl (.agg ⟨_, rfl, rfl⟩ (.sc (.sc (.sc (.sc (.sc (.sc (.own (.there (.there (.there (.there (.here))))) (.own (.there (.there (.there (.here)))) (.own (.there (.there (.here))) .nil))))))))) (.sc .nil)) ⟨(okAg ⟨_, rfl, rfl⟩ ⟨trivial, ⟨trivial, ⟨trivial, ⟨trivial, ⟨trivial, ⟨trivial, ⟨(okW_le (okRFlight x0.fO.fFl) (by decide)), ⟨(okW_le (okRMsg x0.fO.fQ) (by decide)), ⟨(okW_le (okI6 x0.fIn) (by decide)), trivial⟩⟩⟩⟩⟩⟩⟩⟩⟩), ⟨trivial, trivial⟩⟩) ?_
   have e35 : vSessPush x0 x1 x2 = (⟨x0.fClient, x0.fBorn, x0.fClean, x0.fConn, x0.fGen, ⟨x0.fO.fLast, x0.fO.fFl, x0.fO.fQ⟩, x0.fIn⟩ : SessV) := by
    clear s0 s2 s4 s6 s10 s12 s13 s34
    unfold vSessPush
    (repeat' split) <;> first | rfl | (exfalso; simp_all []; done) | (simp_all []; done)
   have e36 : vSessPushC x0 x1 x2 = 3 := by
    clear s0 s2 s4 s6 s10 s12 s13 s34
    unfold vSessPushC
    (repeat' split) <;> first | rfl | (exfalso; simp_all []; done) | (simp_all []; done)
   rw [e35, e36]
   first | done | rfl
 ·refine g_gN (nT h14) ?_
  refine g_gN (nT h14) ?_
  refine g_gN (nT h14) ?_
  refine g_gN (nT h14) ?_
  refine g_pT (nT h14) ?_
  refine g_cT rfl ?_
  refine g_ldW s13 (.here) rfl ?_
  refine g_st (cs' := [.sc (.string x0.fClient), .sc (.int .i64 x0.fBorn), .sc (.bool x0.fClean), .sc (.int .i64 x0.fConn), .sc (.int .i64 x0.fGen), .sc (.int .i64 x0.fO.fLast), x9, x8, x7]) s13 (.there (.there (.there (.there (.here))))) (cells_agg (lf_c rfl (lf_c rfl (lf_c rfl (lf_c rfl (lf_c rfl (lf_c rfl (lf_c lx9 (lf_c lx8 (lf_c lx7 rfl)))))))))) rfl (Nat.le_of_ble_eq_true rfl) rfl fun H s37 => ?_
  refine g_ldW s37 (.here) rfl ?_
  refine g_ret (ret_tup s37 rfl (.agg ⟨_, rfl, rfl⟩ (.sc (.sc (.sc (.sc (.sc (.sc (.own (.there (.there (.there (.there (.here))))) (.own (.there (.there (.there (.here)))) (.own (.there (.there (.here))) .nil))))))))) (.sc .nil)) ⟨(okAg ⟨_, rfl, rfl⟩ ⟨trivial, ⟨trivial, ⟨trivial, ⟨trivial, ⟨trivial, ⟨trivial, ⟨(okW_le (okRFlight x0.fO.fFl) (by decide)), ⟨(okW_le (okRMsg x0.fO.fQ) (by decide)), ⟨(okW_le (okI6 x0.fIn) (by decide)), trivial⟩⟩⟩⟩⟩⟩⟩⟩⟩), ⟨trivial, trivial⟩⟩) ?_
  have e38 : vSessPush x0 x1 x2 = (⟨x0.fClient, x0.fBorn, x0.fClean, x0.fConn, x0.fGen, ⟨x0.fO.fLast, x0.fO.fFl, x0.fO.fQ⟩, x0.fIn⟩ : SessV) := by
   clear s0 s2 s4 s6 s10 s12 s13 s37
   unfold vSessPush
   (repeat' split) <;> first | rfl | (exfalso; simp_all []; done) | (simp_all []; done)
  have e39 : vSessPushC x0 x1 x2 = 3 := by
   clear s0 s2 s4 s6 s10 s12 s13 s37
   unfold vSessPushC
   (repeat' split) <;> first | rfl | (exfalso; simp_all []; done) | (simp_all []; done)
  rw [e38, e39]
  first | done | rfl
theorem implF_Leave (n : Nat) (hn : 1048576 < n) (x0 : SessV) (k0 : okSess x0) (b0 : wtSess x0 ≤ 1048576) : tree E0 (n + 12) 35 14 [.agg (encSess x0)] = some (.agg (encSess (vLeave x0))) := by
 rw [tree_def, f14_eq, f14]
 refine tree_gd (G := (· = _)) ?_
 try simp only [PR_box, PR_new, PR_newSl, PR_fadr, PR_load, PR_store, PR_bin, PR_binB, PR_binA, PR_un, PR_cond, PR_guard, PR_pick, PR_len, PR_lenS, PR_iadr, PR_idx, PR_slice, PR_sliceS, PR_fill, PR_make, PR_app, PR_appS, PR_cvI, PR_cvSS, PR_cvBS, PR_cvSB, PR_extr, PR_nil, PR_clear, PR_fld]
 have s0 : Sep [] [] := sep_nil
 refine g_box s0 (cells_fl (flSess _)) fun i1 H s2 => ?_
 refine g_new s2 fun i3 H s4 => ?_
 refine g_ldW s4 (.there (.here)) rfl ?_
 refine g_callA s4 rfl (.aggF (flSess _) .nil) (copySessF (n + 6) (by omega) x0 (smSC x0 b0)) ⟨_, rfl, rfl⟩ (ins_sc (ins_sc (ins_sc (ins_sc (ins_sc (ins_sc (ins_ro (ty := 30) rfl (okRFlight x0.fO.fFl) (ins_ro (ty := 31) rfl (okRMsg x0.fO.fQ) (ins_ro (ty := 26) rfl (okI6 x0.fIn) ins_nil))))))))) ?_
 rintro _ _ H ⟨_, rfl, ⟨_, rfl, ⟨_, rfl, ⟨_, rfl, ⟨_, rfl, ⟨_, rfl, ⟨x7, _, _, lx7, rfl, rfl, ⟨x6, _, _, lx6, rfl, rfl, ⟨x5, _, _, lx5, rfl, rfl, ⟨rfl, rfl⟩⟩⟩⟩⟩⟩⟩⟩⟩⟩ s8
 simp only [List.nil_append, List.cons_append] at s8
 refine g_new s8 fun i9 H s10 => ?_
 refine g_st (cs' := [.sc (.string x0.fClient), .sc (.int .i64 x0.fBorn), .sc (.bool x0.fClean), .sc (.int .i64 x0.fConn), .sc (.int .i64 x0.fGen), .sc (.int .i64 x0.fO.fLast), x7, x6, x5]) s10 (.here) (cells_agg (lf_c rfl (lf_c rfl (lf_c rfl (lf_c rfl (lf_c rfl (lf_c rfl (lf_c lx7 (lf_c lx6 (lf_c lx5 rfl)))))))))) rfl (Nat.le_of_ble_eq_true rfl) rfl fun H s11 => ?_
 refine g_ldW s11 (.there (.there (.there (.there (.there (.here)))))) rfl ?_
 refine g_callS (v := (.bool (vSessOk x0))) s11 rfl (.aggF (flSess _) .nil) (implSessF n (by omega) _ x0 (sess_hyp x0 b0).1 (sess_hyp x0 b0).2.1 (sess_hyp x0 b0).2.2) ?_
 refine w_split ((vSessOk x0)) (fun h12 => ?_) (fun h12 => ?_)
 ·refine g_gY h12 ?_
  refine g_fadr (o' := 2) rfl ?_
  refine g_gY h12 ?_
  refine g_ld (c := .sc (.bool x0.fClean)) s11 (.there (.there (.there (.there (.there (.here)))))) rfl ?_
  refine g_gY h12 ?_
  refine g_not ?_
  refine g_pT h12 ?_
  refine g_letJ ?_
  refine w_split (x0.fClean) (fun h13 => ?_) (fun h13 => ?_)
  ·refine g_cF (nF h13) ?_
   refine g_ldW s11 (.here) rfl ?_
   refine g_st (cs' := [.sc (.string x0.fClient), .sc (.int .i64 x0.fBorn), .sc (.bool x0.fClean), .sc (.int .i64 x0.fConn), .sc (.int .i64 x0.fGen), .sc (.int .i64 x0.fO.fLast), x7, x6, x5]) s11 (.there (.there (.there (.there (.here))))) (cells_agg (lf_c rfl (lf_c rfl (lf_c rfl (lf_c rfl (lf_c rfl (lf_c rfl (lf_c lx7 (lf_c lx6 (lf_c lx5 rfl)))))))))) rfl (Nat.le_of_ble_eq_true rfl) rfl fun H s14 => ?_
   refine g_ldW s14 (.here) rfl ?_
   refine g_ret (ret_agg s14 ⟨_, rfl, rfl⟩ (.sc (.sc (.sc (.sc (.sc (.sc (.own (.there (.there (.there (.there (.here))))) (.own (.there (.there (.there (.here)))) (.own (.there (.there (.here))) .nil))))))))) ⟨trivial, ⟨trivial, ⟨trivial, ⟨trivial, ⟨trivial, ⟨trivial, ⟨(okW_le (okRFlight x0.fO.fFl) (by decide)), ⟨(okW_le (okRMsg x0.fO.fQ) (by decide)), ⟨(okW_le (okI6 x0.fIn) (by decide)), trivial⟩⟩⟩⟩⟩⟩⟩⟩⟩) ?_
   have e15 : vLeave x0 = (⟨x0.fClient, x0.fBorn, x0.fClean, x0.fConn, x0.fGen, ⟨x0.fO.fLast, x0.fO.fFl, x0.fO.fQ⟩, x0.fIn⟩ : SessV) := by
    clear s0 s2 s4 s8 s10 s11 s14
    unfold vLeave
    (repeat' split) <;> first | rfl | (exfalso; simp_all []; done) | (simp_all []; done)
   rw [e15]
   first | done | rfl
  ·refine g_cT (nT h13) ?_
   refine g_fadr (o' := 3) rfl ?_
   refine g_st (cs' := [.sc (.string x0.fClient), .sc (.int .i64 x0.fBorn), .sc (.bool x0.fClean), .sc (.int .i64 (-1)), .sc (.int .i64 x0.fGen), .sc (.int .i64 x0.fO.fLast), x7, x6, x5]) s11 (.here) (cells_leaf rfl) rfl (Nat.le_of_ble_eq_true rfl) rfl fun H s16 => ?_
   refine g_fadr (o' := 4) rfl ?_
   refine g_st (cs' := [.sc (.string x0.fClient), .sc (.int .i64 x0.fBorn), .sc (.bool x0.fClean), .sc (.int .i64 (-1)), .sc (.int .i64 0), .sc (.int .i64 x0.fO.fLast), x7, x6, x5]) s16 (.here) (cells_leaf rfl) rfl (Nat.le_of_ble_eq_true rfl) rfl fun H s17 => ?_
   refine g_ldW s17 (.here) rfl ?_
   refine g_st (cs' := [.sc (.string x0.fClient), .sc (.int .i64 x0.fBorn), .sc (.bool x0.fClean), .sc (.int .i64 (-1)), .sc (.int .i64 0), .sc (.int .i64 x0.fO.fLast), x7, x6, x5]) s17 (.there (.there (.there (.there (.here))))) (cells_agg (lf_c rfl (lf_c rfl (lf_c rfl (lf_c rfl (lf_c rfl (lf_c rfl (lf_c lx7 (lf_c lx6 (lf_c lx5 rfl)))))))))) rfl (Nat.le_of_ble_eq_true rfl) rfl fun H s18 => ?_
   refine g_ldW s18 (.here) rfl ?_
   refine g_ret (ret_agg s18 ⟨_, rfl, rfl⟩ (.sc (.sc (.sc (.sc (.sc (.sc (.own (.there (.there (.there (.there (.here))))) (.own (.there (.there (.there (.here)))) (.own (.there (.there (.here))) .nil))))))))) ⟨trivial, ⟨trivial, ⟨trivial, ⟨trivial, ⟨trivial, ⟨trivial, ⟨(okW_le (okRFlight x0.fO.fFl) (by decide)), ⟨(okW_le (okRMsg x0.fO.fQ) (by decide)), ⟨(okW_le (okI6 x0.fIn) (by decide)), trivial⟩⟩⟩⟩⟩⟩⟩⟩⟩) ?_
   have e19 : vLeave x0 = (⟨x0.fClient, x0.fBorn, x0.fClean, (-1), 0, ⟨x0.fO.fLast, x0.fO.fFl, x0.fO.fQ⟩, x0.fIn⟩ : SessV) := by
    clear s0 s2 s4 s8 s10 s11 s16 s17 s18
    unfold vLeave
    (repeat' split) <;> first | rfl | (exfalso; simp_all []; done) | (simp_all []; done)
   rw [e19]
   first | done | rfl
 ·refine g_gN h12 ?_
  refine g_gN h12 ?_
  refine g_gN h12 ?_
  refine g_pF h12 ?_
  refine g_letJ ?_
  refine g_cF rfl ?_
  refine g_ldW s11 (.here) rfl ?_
  refine g_st (cs' := [.sc (.string x0.fClient), .sc (.int .i64 x0.fBorn), .sc (.bool x0.fClean), .sc (.int .i64 x0.fConn), .sc (.int .i64 x0.fGen), .sc (.int .i64 x0.fO.fLast), x7, x6, x5]) s11 (.there (.there (.there (.there (.here))))) (cells_agg (lf_c rfl (lf_c rfl (lf_c rfl (lf_c rfl (lf_c rfl (lf_c rfl (lf_c lx7 (lf_c lx6 (lf_c lx5 rfl)))))))))) rfl (Nat.le_of_ble_eq_true rfl) rfl fun H s20 => ?_
  refine g_ldW s20 (.here) rfl ?_
  refine g_ret (ret_agg s20 ⟨_, rfl, rfl⟩ (.sc (.sc (.sc (.sc (.sc (.sc (.own (.there (.there (.there (.there (.here))))) (.own (.there (.there (.there (.here)))) (.own (.there (.there (.here))) .nil))))))))) ⟨trivial, ⟨trivial, ⟨trivial, ⟨trivial, ⟨trivial, ⟨trivial, ⟨(okW_le (okRFlight x0.fO.fFl) (by decide)), ⟨(okW_le (okRMsg x0.fO.fQ) (by decide)), ⟨(okW_le (okI6 x0.fIn) (by decide)), trivial⟩⟩⟩⟩⟩⟩⟩⟩⟩) ?_
  have e21 : vLeave x0 = (⟨x0.fClient, x0.fBorn, x0.fClean, x0.fConn, x0.fGen, ⟨x0.fO.fLast, x0.fO.fFl, x0.fO.fQ⟩, x0.fIn⟩ : SessV) := by
   clear s0 s2 s4 s8 s10 s11 s20
   unfold vLeave
   (repeat' split) <;> first | rfl | (exfalso; simp_all []; done) | (simp_all []; done)
  rw [e21]
  first | done | rfl
theorem implF_Take (n : Nat) (hn : 1048576 < n) (x0 : SessV) (x1 : Bool) (x2 x3 : Int) (k0 : okSess x0) (k1 : True) (k2 : okI x2) (k3 : okI x3) (b0 : wtSess x0 ≤ 1048576) : tree E0 (n + 12) 35 19 [.agg (encSess x0), .sc (.bool x1), .sc (.int .i64 x2), .sc (.int .i64 x3)] = some (.agg (encSess (vTake x0 x1 x2 x3))) := by
 rw [tree_def, f19_eq, f19]
 refine tree_gd (G := (· = _)) ?_
 try simp only [PR_box, PR_new, PR_newSl, PR_fadr, PR_load, PR_store, PR_bin, PR_binB, PR_binA, PR_un, PR_cond, PR_guard, PR_pick, PR_len, PR_lenS, PR_iadr, PR_idx, PR_slice, PR_sliceS, PR_fill, PR_make, PR_app, PR_appS, PR_cvI, PR_cvSS, PR_cvBS, PR_cvSB, PR_extr, PR_nil, PR_clear, PR_fld]
 have s0 : Sep [] [] := sep_nil
 refine g_box s0 (cells_fl (flSess _)) fun i1 H s2 => ?_
 refine g_new s2 fun i3 H s4 => ?_
 refine g_ldW s4 (.there (.here)) rfl ?_
 refine g_callA s4 rfl (.aggF (flSess _) .nil) (copySessF (n + 6) (by omega) x0 (smSC x0 b0)) ⟨_, rfl, rfl⟩ (ins_sc (ins_sc (ins_sc (ins_sc (ins_sc (ins_sc (ins_ro (ty := 30) rfl (okRFlight x0.fO.fFl) (ins_ro (ty := 31) rfl (okRMsg x0.fO.fQ) (ins_ro (ty := 26) rfl (okI6 x0.fIn) ins_nil))))))))) ?_
 rintro _ _ H ⟨_, rfl, ⟨_, rfl, ⟨_, rfl, ⟨_, rfl, ⟨_, rfl, ⟨_, rfl, ⟨x7, _, _, lx7, rfl, rfl, ⟨x6, _, _, lx6, rfl, rfl, ⟨x5, _, _, lx5, rfl, rfl, ⟨rfl, rfl⟩⟩⟩⟩⟩⟩⟩⟩⟩⟩ s8
 simp only [List.nil_append, List.cons_append] at s8
 refine g_new s8 fun i9 H s10 => ?_
 refine g_st (cs' := [.sc (.string x0.fClient), .sc (.int .i64 x0.fBorn), .sc (.bool x0.fClean), .sc (.int .i64 x0.fConn), .sc (.int .i64 x0.fGen), .sc (.int .i64 x0.fO.fLast), x7, x6, x5]) s10 (.here) (cells_agg (lf_c rfl (lf_c rfl (lf_c rfl (lf_c rfl (lf_c rfl (lf_c rfl (lf_c lx7 (lf_c lx6 (lf_c lx5 rfl)))))))))) rfl (Nat.le_of_ble_eq_true rfl) rfl fun H s11 => ?_
 refine g_ldW s11 (.there (.there (.there (.there (.there (.here)))))) rfl ?_
 refine g_callS (v := (.bool (vSessOk x0))) s11 rfl (.aggF (flSess _) .nil) (implSessF n (by omega) _ x0 (sess_hyp x0 b0).1 (sess_hyp x0 b0).2.1 (sess_hyp x0 b0).2.2) ?_
 refine w_split ((vSessOk x0)) (fun h12 => ?_) (fun h12 => ?_)
 ·refine g_gY h12 ?_
  refine g_gY h12 ?_
  refine g_gY h12 ?_
  refine g_gY h12 ?_
  refine g_callS (v := (.bool (vPlace x1 x2 x3))) s11 rfl (.cons .sc (.cons .sc (.cons .sc .nil))) (placeOkF (n + 9) _ x1 x2 x3) ?_
  refine g_pT h12 ?_
  refine g_letJ ?_
  refine w_split ((vPlace x1 x2 x3)) (fun h13 => ?_) (fun h13 => ?_)
  ·refine g_cT h13 ?_
   refine g_fadr (o' := 2) rfl ?_
   refine g_st (cs' := [.sc (.string x0.fClient), .sc (.int .i64 x0.fBorn), .sc (.bool x1), .sc (.int .i64 x0.fConn), .sc (.int .i64 x0.fGen), .sc (.int .i64 x0.fO.fLast), x7, x6, x5]) s11 (.here) (cells_leaf rfl) rfl (Nat.le_of_ble_eq_true rfl) rfl fun H s14 => ?_
   refine g_fadr (o' := 3) rfl ?_
   refine g_st (cs' := [.sc (.string x0.fClient), .sc (.int .i64 x0.fBorn), .sc (.bool x1), .sc (.int .i64 x2), .sc (.int .i64 x0.fGen), .sc (.int .i64 x0.fO.fLast), x7, x6, x5]) s14 (.here) (cells_leaf rfl) rfl (Nat.le_of_ble_eq_true rfl) rfl fun H s15 => ?_
   refine g_fadr (o' := 4) rfl ?_
   refine g_st (cs' := [.sc (.string x0.fClient), .sc (.int .i64 x0.fBorn), .sc (.bool x1), .sc (.int .i64 x2), .sc (.int .i64 x3), .sc (.int .i64 x0.fO.fLast), x7, x6, x5]) s15 (.here) (cells_leaf rfl) rfl (Nat.le_of_ble_eq_true rfl) rfl fun H s16 => ?_
   refine g_ldW s16 (.here) rfl ?_
   refine g_st (cs' := [.sc (.string x0.fClient), .sc (.int .i64 x0.fBorn), .sc (.bool x1), .sc (.int .i64 x2), .sc (.int .i64 x3), .sc (.int .i64 x0.fO.fLast), x7, x6, x5]) s16 (.there (.there (.there (.there (.here))))) (cells_agg (lf_c rfl (lf_c rfl (lf_c rfl (lf_c rfl (lf_c rfl (lf_c rfl (lf_c lx7 (lf_c lx6 (lf_c lx5 rfl)))))))))) rfl (Nat.le_of_ble_eq_true rfl) rfl fun H s17 => ?_
   refine g_ldW s17 (.here) rfl ?_
   refine g_ret (ret_agg s17 ⟨_, rfl, rfl⟩ (.sc (.sc (.sc (.sc (.sc (.sc (.own (.there (.there (.there (.there (.here))))) (.own (.there (.there (.there (.here)))) (.own (.there (.there (.here))) .nil))))))))) ⟨trivial, ⟨trivial, ⟨trivial, ⟨trivial, ⟨trivial, ⟨trivial, ⟨(okW_le (okRFlight x0.fO.fFl) (by decide)), ⟨(okW_le (okRMsg x0.fO.fQ) (by decide)), ⟨(okW_le (okI6 x0.fIn) (by decide)), trivial⟩⟩⟩⟩⟩⟩⟩⟩⟩) ?_
   have e18 : vTake x0 x1 x2 x3 = (⟨x0.fClient, x0.fBorn, x1, x2, x3, ⟨x0.fO.fLast, x0.fO.fFl, x0.fO.fQ⟩, x0.fIn⟩ : SessV) := by
    clear s0 s2 s4 s8 s10 s11 s14 s15 s16 s17
    unfold vTake
    (repeat' split) <;> first | rfl | (exfalso; simp_all [sess_place]; done) | (simp_all [sess_place]; done)
   rw [e18]
   first | done | rfl
  ·refine g_cF h13 ?_
   refine g_ldW s11 (.here) rfl ?_
   refine g_st (cs' := [.sc (.string x0.fClient), .sc (.int .i64 x0.fBorn), .sc (.bool x0.fClean), .sc (.int .i64 x0.fConn), .sc (.int .i64 x0.fGen), .sc (.int .i64 x0.fO.fLast), x7, x6, x5]) s11 (.there (.there (.there (.there (.here))))) (cells_agg (lf_c rfl (lf_c rfl (lf_c rfl (lf_c rfl (lf_c rfl (lf_c rfl (lf_c lx7 (lf_c lx6 (lf_c lx5 rfl)))))))))) rfl (Nat.le_of_ble_eq_true rfl) rfl fun H s19 => ?_
   refine g_ldW s19 (.here) rfl ?_
   refine g_ret (ret_agg s19 ⟨_, rfl, rfl⟩ (.sc (.sc (.sc (.sc (.sc (.sc (.own (.there (.there (.there (.there (.here))))) (.own (.there (.there (.there (.here)))) (.own (.there (.there (.here))) .nil))))))))) ⟨trivial, ⟨trivial, ⟨trivial, ⟨trivial, ⟨trivial, ⟨trivial, ⟨(okW_le (okRFlight x0.fO.fFl) (by decide)), ⟨(okW_le (okRMsg x0.fO.fQ) (by decide)), ⟨(okW_le (okI6 x0.fIn) (by decide)), trivial⟩⟩⟩⟩⟩⟩⟩⟩⟩) ?_
   have e20 : vTake x0 x1 x2 x3 = (⟨x0.fClient, x0.fBorn, x0.fClean, x0.fConn, x0.fGen, ⟨x0.fO.fLast, x0.fO.fFl, x0.fO.fQ⟩, x0.fIn⟩ : SessV) := by
    clear s0 s2 s4 s8 s10 s11 s19
    unfold vTake
    (repeat' split) <;> first | rfl | (exfalso; simp_all [sess_place]; done) | (simp_all [sess_place]; done)
   rw [e20]
   first | done | rfl
 ·refine g_gN h12 ?_
  refine g_gN h12 ?_
  refine g_gN h12 ?_
  refine g_gN h12 ?_
  refine g_pF h12 ?_
  refine g_letJ ?_
  refine g_cF rfl ?_
  refine g_ldW s11 (.here) rfl ?_
  refine g_st (cs' := [.sc (.string x0.fClient), .sc (.int .i64 x0.fBorn), .sc (.bool x0.fClean), .sc (.int .i64 x0.fConn), .sc (.int .i64 x0.fGen), .sc (.int .i64 x0.fO.fLast), x7, x6, x5]) s11 (.there (.there (.there (.there (.here))))) (cells_agg (lf_c rfl (lf_c rfl (lf_c rfl (lf_c rfl (lf_c rfl (lf_c rfl (lf_c lx7 (lf_c lx6 (lf_c lx5 rfl)))))))))) rfl (Nat.le_of_ble_eq_true rfl) rfl fun H s21 => ?_
  refine g_ldW s21 (.here) rfl ?_
  refine g_ret (ret_agg s21 ⟨_, rfl, rfl⟩ (.sc (.sc (.sc (.sc (.sc (.sc (.own (.there (.there (.there (.there (.here))))) (.own (.there (.there (.there (.here)))) (.own (.there (.there (.here))) .nil))))))))) ⟨trivial, ⟨trivial, ⟨trivial, ⟨trivial, ⟨trivial, ⟨trivial, ⟨(okW_le (okRFlight x0.fO.fFl) (by decide)), ⟨(okW_le (okRMsg x0.fO.fQ) (by decide)), ⟨(okW_le (okI6 x0.fIn) (by decide)), trivial⟩⟩⟩⟩⟩⟩⟩⟩⟩) ?_
  have e22 : vTake x0 x1 x2 x3 = (⟨x0.fClient, x0.fBorn, x0.fClean, x0.fConn, x0.fGen, ⟨x0.fO.fLast, x0.fO.fFl, x0.fO.fQ⟩, x0.fIn⟩ : SessV) := by
   clear s0 s2 s4 s8 s10 s11 s21
   unfold vTake
   (repeat' split) <;> first | rfl | (exfalso; simp_all [sess_place]; done) | (simp_all [sess_place]; done)
  rw [e22]
  first | done | rfl
theorem implF_SessPush (n : Nat) (hn : 1048576 < n) (x0 : SessV) (x1 : Int) (x2 : MsgV) (k0 : okSess x0) (k1 : okI x1) (k2 : okMsg x2) (b0 : wtSess x0 ≤ 1048576) (b2 : wtMsg x2 ≤ 1048576) : tree E0 (n + 13) 47 23 [.agg (encSess x0), .sc (.int .i64 x1), .agg (encMsg x2)] = some (.tup [.agg (encSess (vSessPush x0 x1 x2)), .sc (.int .i64 (vSessPushC x0 x1 x2))]) := by
 rw [tree_def, f23_eq, f23]
 refine tree_gd (G := (· = _)) ?_
 try simp only [PR_box, PR_new, PR_newSl, PR_fadr, PR_load, PR_store, PR_bin, PR_binB, PR_binA, PR_un, PR_cond, PR_guard, PR_pick, PR_len, PR_lenS, PR_iadr, PR_idx, PR_slice, PR_sliceS, PR_fill, PR_make, PR_app, PR_appS, PR_cvI, PR_cvSS, PR_cvBS, PR_cvSB, PR_extr, PR_nil, PR_clear, PR_fld]
 have s0 : Sep [] [] := sep_nil
 refine g_box s0 (cells_fl (flSess _)) fun i1 H s2 => ?_
 refine g_box s2 (cells_fl (flMsg _)) fun i3 H s4 => ?_
 refine g_new s4 fun i5 H s6 => ?_
 refine g_ldW s6 (.there (.there (.here))) rfl ?_
 refine g_callA s6 rfl (.aggF (flSess _) .nil) (copySessF (n + 7) (by omega) x0 (smSC x0 b0)) ⟨_, rfl, rfl⟩ (ins_sc (ins_sc (ins_sc (ins_sc (ins_sc (ins_sc (ins_ro (ty := 30) rfl (okRFlight x0.fO.fFl) (ins_ro (ty := 31) rfl (okRMsg x0.fO.fQ) (ins_ro (ty := 26) rfl (okI6 x0.fIn) ins_nil))))))))) ?_
 rintro _ _ H ⟨_, rfl, ⟨_, rfl, ⟨_, rfl, ⟨_, rfl, ⟨_, rfl, ⟨_, rfl, ⟨x9, _, _, lx9, rfl, rfl, ⟨x8, _, _, lx8, rfl, rfl, ⟨x7, _, _, lx7, rfl, rfl, ⟨rfl, rfl⟩⟩⟩⟩⟩⟩⟩⟩⟩⟩ s10
 simp only [List.nil_append, List.cons_append] at s10
 refine g_new s10 fun i11 H s12 => ?_
 refine g_st (cs' := [.sc (.string x0.fClient), .sc (.int .i64 x0.fBorn), .sc (.bool x0.fClean), .sc (.int .i64 x0.fConn), .sc (.int .i64 x0.fGen), .sc (.int .i64 x0.fO.fLast), x9, x8, x7]) s12 (.here) (cells_agg (lf_c rfl (lf_c rfl (lf_c rfl (lf_c rfl (lf_c rfl (lf_c rfl (lf_c lx9 (lf_c lx8 (lf_c lx7 rfl)))))))))) rfl (Nat.le_of_ble_eq_true rfl) rfl fun H s13 => ?_
 refine g_ldW s13 (.there (.there (.there (.there (.there (.there (.here))))))) rfl ?_
 refine g_callS (v := (.bool (vSessOk x0))) s13 rfl (.aggF (flSess _) .nil) (implSessF (n + 1) (by omega) _ x0 (sess_hyp x0 b0).1 (sess_hyp x0 b0).2.1 (sess_hyp x0 b0).2.2) ?_
 refine g_not ?_
 refine w_split ((vSessOk x0)) (fun h14 => ?_) (fun h14 => ?_)
 ·refine g_gY (nF h14) ?_
  refine g_fadr (o' := 1) rfl ?_
  refine g_gY (nF h14) ?_
  refine g_ld (c := .sc (.int .i64 x0.fBorn)) s13 (.there (.there (.there (.there (.there (.there (.here))))))) rfl ?_
  refine g_gY (nF h14) ?_
  refine g_gY (nF h14) ?_
  refine g_neq ?_
  refine g_pF (nF h14) ?_
  refine w_split ((decide (x0.fBorn = x1))) (fun h15 => ?_) (fun h15 => ?_)
  ·refine g_cF (nF h15) ?_
   refine g_fadr (o' := 5) rfl ?_
   refine g_ldA (ds := encOut x0.fO) s13 (.there (.there (.there (.there (.there (.there (.here))))))) (Nat.le_of_ble_eq_true rfl) rfl ?_
   refine g_ldW s13 (.there (.there (.there (.there (.there (.here)))))) rfl ?_
   refine g_callT s13 rfl (.aggF (flOut _) (.aggF (flMsg _) .nil)) (implF_OutPush (n + 1) (by omega) x0.fO x2 (k0.2.2.2.2.2.1) k2 (out_wt x0 b0) b2) rfl (ins_agg ⟨_, rfl, rfl⟩ (ins_sc (ins_ro (ty := 30) rfl (okRFlight ((vOutPush x0.fO x2).fFl)) (ins_ro (ty := 31) rfl (okRMsg ((vOutPush x0.fO x2).fQ)) ins_nil))) (ins_sc ins_nil)) ?_
   rintro _ _ H ⟨_, _, _, _, rfl, rfl, ⟨_, rfl, ⟨x17, _, _, lx17, rfl, rfl, ⟨x16, _, _, lx16, rfl, rfl, ⟨rfl, rfl⟩⟩⟩⟩, ⟨_, rfl, ⟨rfl, rfl⟩⟩⟩ s18
   simp only [List.nil_append, List.cons_append] at s18
   refine g_extr (v := .agg [.sc (.int .i64 ((vOutPush x0.fO x2).fLast)), x17, x16]) rfl ?_
   refine g_extr (v := .sc (.int .i64 (vOutPushC x0.fO x2))) rfl ?_
   refine g_new s18 fun i19 H s20 => ?_
   refine g_st (cs' := [.sc (.int .i64 ((vOutPush x0.fO x2).fLast)), x17, x16]) s20 (.here) (cells_agg (lf_c rfl (lf_c lx17 (lf_c lx16 rfl)))) rfl (Nat.le_of_ble_eq_true rfl) rfl fun H s21 => ?_
   refine g_ldW s21 (.here) rfl ?_
   refine g_fadr (o' := 5) rfl ?_
   refine g_st (cs' := [.sc (.string x0.fClient), .sc (.int .i64 x0.fBorn), .sc (.bool x0.fClean), .sc (.int .i64 x0.fConn), .sc (.int .i64 x0.fGen), .sc (.int .i64 ((vOutPush x0.fO x2).fLast)), x17, x16, x7]) s21 (.there (.there (.there (.here)))) (cells_agg (lf_c rfl (lf_c lx17 (lf_c lx16 rfl)))) rfl (Nat.le_of_ble_eq_true rfl) rfl fun H s22 => ?_
   refine g_eql ?_
   refine w_split ((decide ((vOutPushC x0.fO x2) = 2))) (fun h23 => ?_) (fun h23 => ?_)
   ·refine g_gY h23 ?_
    refine g_fadr (o' := 3) rfl ?_
    refine g_gY h23 ?_
    refine g_ld (c := .sc (.int .i64 x0.fConn)) s22 (.there (.there (.there (.there (.there (.there (.there (.there (.there (.here)))))))))) rfl ?_
    refine g_gY h23 ?_
    refine g_eql ?_
    refine g_pT h23 ?_
    refine g_letJ ?_
    refine w_split ((decide (x0.fConn = (-1)))) (fun h24 => ?_) (fun h24 => ?_)
    ·refine g_cT h24 ?_
     refine g_ldW s22 (.here) rfl ?_
     refine g_st (cs' := [.sc (.string x0.fClient), .sc (.int .i64 x0.fBorn), .sc (.bool x0.fClean), .sc (.int .i64 x0.fConn), .sc (.int .i64 x0.fGen), .sc (.int .i64 ((vOutPush x0.fO x2).fLast)), x17, x16, x7]) s22 (.there (.there (.there (.there (.there (.there (.there (.here)))))))) (cells_agg (lf_c rfl (lf_c rfl (lf_c rfl (lf_c rfl (lf_c rfl (lf_c rfl (lf_c lx17 (lf_c lx16 (lf_c lx7 rfl)))))))))) rfl (Nat.le_of_ble_eq_true rfl) rfl fun H s25 => ?_
     refine g_ldW s25 (.here) rfl ?_
     refine g_ret (ret_tup s25 rfl (.agg ⟨_, rfl, rfl⟩ (.sc (.sc (.sc (.sc (.sc (.sc (.own (.there (.there (.there (.there (.here))))) (.own (.there (.there (.there (.here)))) (.own (.there (.there (.there (.here)))) .nil))))))))) (.sc .nil)) ⟨(okAg ⟨_, rfl, rfl⟩ ⟨trivial, ⟨trivial, ⟨trivial, ⟨trivial, ⟨trivial, ⟨trivial, ⟨(okW_le (okRFlight ((vOutPush x0.fO x2).fFl)) (by decide)), ⟨(okW_le (okRMsg ((vOutPush x0.fO x2).fQ)) (by decide)), ⟨(okW_le (okI6 x0.fIn) (by decide)), trivial⟩⟩⟩⟩⟩⟩⟩⟩⟩), ⟨trivial, trivial⟩⟩) ?_
     have e26 : vSessPush x0 x1 x2 = (⟨x0.fClient, x0.fBorn, x0.fClean, x0.fConn, x0.fGen, ⟨(vOutPush x0.fO x2).fLast, ((vOutPush x0.fO x2).fFl), ((vOutPush x0.fO x2).fQ)⟩, x0.fIn⟩ : SessV) := by
      clear s0 s2 s4 s6 s10 s12 s13 s18 s20 s21 s22 s25
      unfold vSessPush
      (repeat' split) <;> first | rfl | (exfalso; simp_all []; done) | (simp_all []; done)
     have e27 : vSessPushC x0 x1 x2 = 1 := by
      clear s0 s2 s4 s6 s10 s12 s13 s18 s20 s21 s22 s25
      unfold vSessPushC
      (repeat' split) <;> first | rfl | (exfalso; simp_all []; done) | (simp_all []; done)
     rw [e26, e27]
     first | done | rfl
    ·refine g_cF h24 ?_
     refine g_ldW s22 (.here) rfl ?_
     refine g_st (cs' := [.sc (.string x0.fClient), .sc (.int .i64 x0.fBorn), .sc (.bool x0.fClean), .sc (.int .i64 x0.fConn), .sc (.int .i64 x0.fGen), .sc (.int .i64 ((vOutPush x0.fO x2).fLast)), x17, x16, x7]) s22 (.there (.there (.there (.there (.there (.there (.there (.here)))))))) (cells_agg (lf_c rfl (lf_c rfl (lf_c rfl (lf_c rfl (lf_c rfl (lf_c rfl (lf_c lx17 (lf_c lx16 (lf_c lx7 rfl)))))))))) rfl (Nat.le_of_ble_eq_true rfl) rfl fun H s28 => ?_
     refine g_ldW s28 (.here) rfl ?_
     refine g_ret (ret_tup s28 rfl (.agg ⟨_, rfl, rfl⟩ (.sc (.sc (.sc (.sc (.sc (.sc (.own (.there (.there (.there (.there (.here))))) (.own (.there (.there (.there (.here)))) (.own (.there (.there (.there (.here)))) .nil))))))))) (.sc .nil)) ⟨(okAg ⟨_, rfl, rfl⟩ ⟨trivial, ⟨trivial, ⟨trivial, ⟨trivial, ⟨trivial, ⟨trivial, ⟨(okW_le (okRFlight ((vOutPush x0.fO x2).fFl)) (by decide)), ⟨(okW_le (okRMsg ((vOutPush x0.fO x2).fQ)) (by decide)), ⟨(okW_le (okI6 x0.fIn) (by decide)), trivial⟩⟩⟩⟩⟩⟩⟩⟩⟩), ⟨trivial, trivial⟩⟩) ?_
     have e29 : vSessPush x0 x1 x2 = (⟨x0.fClient, x0.fBorn, x0.fClean, x0.fConn, x0.fGen, ⟨(vOutPush x0.fO x2).fLast, ((vOutPush x0.fO x2).fFl), ((vOutPush x0.fO x2).fQ)⟩, x0.fIn⟩ : SessV) := by
      clear s0 s2 s4 s6 s10 s12 s13 s18 s20 s21 s22 s28
      unfold vSessPush
      (repeat' split) <;> first | rfl | (exfalso; simp_all []; done) | (simp_all []; done)
     have e30 : vSessPushC x0 x1 x2 = (vOutPushC x0.fO x2) := by
      clear s0 s2 s4 s6 s10 s12 s13 s18 s20 s21 s22 s28
      unfold vSessPushC
      (repeat' split) <;> first | rfl | (exfalso; simp_all []; done) | (simp_all []; done)
     rw [e29, e30]
     first | done | rfl
   ·refine g_gN h23 ?_
    refine g_gN h23 ?_
    refine g_gN h23 ?_
    refine g_pF h23 ?_
    refine g_letJ ?_
    refine g_cF rfl ?_
    refine g_ldW s22 (.here) rfl ?_
    refine g_st (cs' := [.sc (.string x0.fClient), .sc (.int .i64 x0.fBorn), .sc (.bool x0.fClean), .sc (.int .i64 x0.fConn), .sc (.int .i64 x0.fGen), .sc (.int .i64 ((vOutPush x0.fO x2).fLast)), x17, x16, x7]) s22 (.there (.there (.there (.there (.there (.there (.there (.here)))))))) (cells_agg (lf_c rfl (lf_c rfl (lf_c rfl (lf_c rfl (lf_c rfl (lf_c rfl (lf_c lx17 (lf_c lx16 (lf_c lx7 rfl)))))))))) rfl (Nat.le_of_ble_eq_true rfl) rfl fun H s31 => ?_
    refine g_ldW s31 (.here) rfl ?_
    refine g_ret (ret_tup s31 rfl (.agg ⟨_, rfl, rfl⟩ (.sc (.sc (.sc (.sc (.sc (.sc (.own (.there (.there (.there (.there (.here))))) (.own (.there (.there (.there (.here)))) (.own (.there (.there (.there (.here)))) .nil))))))))) (.sc .nil)) ⟨(okAg ⟨_, rfl, rfl⟩ ⟨trivial, ⟨trivial, ⟨trivial, ⟨trivial, ⟨trivial, ⟨trivial, ⟨(okW_le (okRFlight ((vOutPush x0.fO x2).fFl)) (by decide)), ⟨(okW_le (okRMsg ((vOutPush x0.fO x2).fQ)) (by decide)), ⟨(okW_le (okI6 x0.fIn) (by decide)), trivial⟩⟩⟩⟩⟩⟩⟩⟩⟩), ⟨trivial, trivial⟩⟩) ?_
    have e32 : vSessPush x0 x1 x2 = (⟨x0.fClient, x0.fBorn, x0.fClean, x0.fConn, x0.fGen, ⟨(vOutPush x0.fO x2).fLast, ((vOutPush x0.fO x2).fFl), ((vOutPush x0.fO x2).fQ)⟩, x0.fIn⟩ : SessV) := by
     clear s0 s2 s4 s6 s10 s12 s13 s18 s20 s21 s22 s31
     unfold vSessPush
     (repeat' split) <;> first | rfl | (exfalso; simp_all []; done) | (simp_all []; done)
    have e33 : vSessPushC x0 x1 x2 = (vOutPushC x0.fO x2) := by
     clear s0 s2 s4 s6 s10 s12 s13 s18 s20 s21 s22 s31
     unfold vSessPushC
     (repeat' split) <;> first | rfl | (exfalso; simp_all []; done) | (simp_all []; done)
    rw [e32, e33]
    first | done | rfl
  ·refine g_cT (nT h15) ?_
   refine g_ldW s13 (.here) rfl ?_
   refine g_st (cs' := [.sc (.string x0.fClient), .sc (.int .i64 x0.fBorn), .sc (.bool x0.fClean), .sc (.int .i64 x0.fConn), .sc (.int .i64 x0.fGen), .sc (.int .i64 x0.fO.fLast), x9, x8, x7]) s13 (.there (.there (.there (.there (.here))))) (cells_agg (lf_c rfl (lf_c rfl (lf_c rfl (lf_c rfl (lf_c rfl (lf_c rfl (lf_c lx9 (lf_c lx8 (lf_c lx7 rfl)))))))))) rfl (Nat.le_of_ble_eq_true rfl) rfl fun H s34 => ?_
   refine g_ldW s34 (.here) rfl ?_
   refine g_ret (ret_tup s34 rfl (.agg ⟨_, rfl, rfl⟩ (.sc (.sc (.sc (.sc (.sc (.sc (.own (.there (.there (.there (.there (.here))))) (.own (.there (.there (.there (.here)))) (.own (.there (.there (.here))) .nil))))))))) (.sc .nil)) ⟨(okAg ⟨_, rfl, rfl⟩ ⟨trivial, ⟨trivial, ⟨trivial, ⟨trivial, ⟨trivial, ⟨trivial, ⟨(okW_le (okRFlight x0.fO.fFl) (by decide)), ⟨(okW_le (okRMsg x0.fO.fQ) (by decide)), ⟨(okW_le (okI6 x0.fIn) (by decide)), trivial⟩⟩⟩⟩⟩⟩⟩⟩⟩), ⟨trivial, trivial⟩⟩) ?_
   have e35 : vSessPush x0 x1 x2 = (⟨x0.fClient, x0.fBorn, x0.fClean, x0.fConn, x0.fGen, ⟨x0.fO.fLast, x0.fO.fFl, x0.fO.fQ⟩, x0.fIn⟩ : SessV) := by
    clear s0 s2 s4 s6 s10 s12 s13 s34
    unfold vSessPush
    (repeat' split) <;> first | rfl | (exfalso; simp_all []; done) | (simp_all []; done)
   have e36 : vSessPushC x0 x1 x2 = 3 := by
    clear s0 s2 s4 s6 s10 s12 s13 s34
    unfold vSessPushC
    (repeat' split) <;> first | rfl | (exfalso; simp_all []; done) | (simp_all []; done)
   rw [e35, e36]
   first | done | rfl
 ·refine g_gN (nT h14) ?_
  refine g_gN (nT h14) ?_
  refine g_gN (nT h14) ?_
  refine g_gN (nT h14) ?_
  refine g_pT (nT h14) ?_
  refine g_cT rfl ?_
  refine g_ldW s13 (.here) rfl ?_
  refine g_st (cs' := [.sc (.string x0.fClient), .sc (.int .i64 x0.fBorn), .sc (.bool x0.fClean), .sc (.int .i64 x0.fConn), .sc (.int .i64 x0.fGen), .sc (.int .i64 x0.fO.fLast), x9, x8, x7]) s13 (.there (.there (.there (.there (.here))))) (cells_agg (lf_c rfl (lf_c rfl (lf_c rfl (lf_c rfl (lf_c rfl (lf_c rfl (lf_c lx9 (lf_c lx8 (lf_c lx7 rfl)))))))))) rfl (Nat.le_of_ble_eq_true rfl) rfl fun H s37 => ?_
  refine g_ldW s37 (.here) rfl ?_
  refine g_ret (ret_tup s37 rfl (.agg ⟨_, rfl, rfl⟩ (.sc (.sc (.sc (.sc (.sc (.sc (.own (.there (.there (.there (.there (.here))))) (.own (.there (.there (.there (.here)))) (.own (.there (.there (.here))) .nil))))))))) (.sc .nil)) ⟨(okAg ⟨_, rfl, rfl⟩ ⟨trivial, ⟨trivial, ⟨trivial, ⟨trivial, ⟨trivial, ⟨trivial, ⟨(okW_le (okRFlight x0.fO.fFl) (by decide)), ⟨(okW_le (okRMsg x0.fO.fQ) (by decide)), ⟨(okW_le (okI6 x0.fIn) (by decide)), trivial⟩⟩⟩⟩⟩⟩⟩⟩⟩), ⟨trivial, trivial⟩⟩) ?_
  have e38 : vSessPush x0 x1 x2 = (⟨x0.fClient, x0.fBorn, x0.fClean, x0.fConn, x0.fGen, ⟨x0.fO.fLast, x0.fO.fFl, x0.fO.fQ⟩, x0.fIn⟩ : SessV) := by
   clear s0 s2 s4 s6 s10 s12 s13 s37
   unfold vSessPush
   (repeat' split) <;> first | rfl | (exfalso; simp_all []; done) | (simp_all []; done)
  have e39 : vSessPushC x0 x1 x2 = 3 := by
   clear s0 s2 s4 s6 s10 s12 s13 s37
   unfold vSessPushC
   (repeat' split) <;> first | rfl | (exfalso; simp_all []; done) | (simp_all []; done)
  rw [e38, e39]
  first | done | rfl
theorem resF_Leave_0 (x0 : SessV) (b0 : wtSess x0 ≤ 1048576) : wtSess (vLeave x0) ≤ 1048576 ∧ smSess (vLeave x0) := by
 have h : wtSess (vLeave x0) ≤ 1048576 := by
  unfold vLeave
  split <;> exact b0
 exact ⟨h, smwSess _ h⟩
theorem resF_Take_0 (x0 : SessV) (x1 : Bool) (x2 x3 : Int) (b0 : wtSess x0 ≤ 1048576) : wtSess (vTake x0 x1 x2 x3) ≤ 1048576 ∧ smSess (vTake x0 x1 x2 x3) := by
 have h : wtSess (vTake x0 x1 x2 x3) ≤ 1048576 := by
  unfold vTake
  split <;> exact b0
 exact ⟨h, smwSess _ h⟩
theorem goIn_len (l : List Int) : ∀ r pre, goIn l pre r = true → l.length ≤ 4
 | [], pre, h => by
  have : decide ((l.length : Int) ≤ 4) = true := h
  simp at this
  omega
 | x :: r, pre, h => by
  rw [goIn, Bool.and_eq_true] at h
  exact goIn_len l r _ h.2
theorem sess_small (s : SessV) (h : vSessOk s = true) : s.fClient.size ≤ 60 ∧ vOutOk s.fO = true ∧ s.fIn.length ≤ 4 := by
 unfold vSessOk at h
 simp only [Bool.and_eq_true] at h
 obtain ⟨⟨⟨⟨h1, h2⟩, h3⟩, h4⟩, h5⟩ := h
 refine ⟨?_, h4, goIn_len _ _ _ h5⟩
 unfold vName vTextOk at h1
 simp at h1
 omega
theorem sessPush_wt (x0 : SessV) (x1 : Int) (x2 : MsgV) (b0 : wtSess x0 ≤ 1048576) : wtSess (vSessPush x0 x1 x2) ≤ 1048576 := by
 unfold vSessPush
 split
 ·rename_i h
  rw [Bool.and_eq_true] at h
  obtain ⟨h1, h2, h3⟩ := sess_small x0 h.1
  obtain ⟨g1, g2⟩ := out_small x0.fO h2
  have g3 := (push_wt x0.fO.fQ x2 (by omega)).1
  have e : vOutPush x0.fO x2 = { x0.fO with fQ := vPush x0.fO.fQ x2 } := by simp [vOutPush, h2]
  rw [e]
  show x0.fClient.size + (wtL wtFlight x0.fO.fFl + (wtL wtMsg (vPush x0.fO.fQ x2) + 0) + (x0.fIn.length + 0)) ≤ _
  omega
 ·exact b0
theorem resF_SessPush_0 (x0 : SessV) (x1 : Int) (x2 : MsgV) (b0 : wtSess x0 ≤ 1048576) (b2 : wtMsg x2 ≤ 1048576) : wtSess (vSessPush x0 x1 x2) ≤ 1048576 ∧ smSess (vSessPush x0 x1 x2) := ⟨sessPush_wt x0 x1 x2 b0, smwSess _ (sessPush_wt x0 x1 x2 b0)⟩
end Go.Proofs.YtdameggfgnpehaaGreatDoor.Abs
