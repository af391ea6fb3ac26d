/- OutPush, as both sides have it. -/
import Derived.Test.YtpcgppelelfmiaaDoorAtB
import Derived.Test.YtpcgppelelfmiaaDoorVOutC
import Derived.Test.YtpcgppelelfmiaaDoorVPush
import Derived.Test.YtpcgppelelfmiaaDoorVO
import Derived.Test.YtpcgppelelfmiaaDoorMk
set_option linter.unusedVariables false
set_option linter.unusedSimpArgs false
set_option maxRecDepth 100000
namespace Go.Proofs.YtpcgppelelfmiaaDoor.Abs
open Go

theorem leaf_cells {y : AV} (hl : isLeaf y = true) : cellsA y = some [y] := by
  cases y <;> first | (simp [isLeaf] at hl; done) | (simp only [cellsA, hl, if_true]) | rfl
theorem cells3 {v : Value} {x z : AV} (hv : isLeaf (.sc v) = true) (hx : isLeaf x = true) (hz : isLeaf z = true) : cellsA (.agg [.sc v, x, z]) = some [.sc v, x, z] := by
  show (if (isLeaf (.sc v) && (isLeaf x && (isLeaf z && true))) = true then _ else none) = _
  rw [hv, hx, hz]
  rfl
theorem out_fin {H : Heap} {i6 : Nat} {o : OutV} {q' : List MsgV} {x z : AV} {ids1 ids2 : List Nat} {c : Int} (h6 : H[i6]? = some ⟨[.sc (.int .i64 o.fLast), x, z], true, true⟩) (h2 : H[2]? = some ⟨zzOut, true, true⟩) (lx : isLeaf x = true) (lz : isLeaf z = true)
    (ox : ownT ti0 E0.tp H 6 43 x = some (rowsC encFlight o.fFl, ids1)) (oz : ownT ti0 E0.tp H 6 34 z = some (rowsC encMsg q', ids2)) (hn : (ids1 ++ ids2).Nodup) (n1 : 2 ∉ ids1) (n2 : 2 ∉ ids2) :
    (pLoad true 3 (.ptr i6 0) H fun t => pStore 3 (.ptr 2 0) t H fun H => pLoad true 3 (.ptr 2 0) H fun r0 => ownTree ti0 E0.tp 75 H (packA [r0, .sc (.int .i64 c)])) = some (.tup [.agg (encOut { o with fQ := q' }), .sc (.int .i64 c)]) := by
  have l2 : 2 < H.length := (List.getElem?_eq_some_iff.1 h2).1
  refine w_ldA (ds := [.sc (.int .i64 o.fLast), x, z]) h6 (Nat.le_of_ble_eq_true rfl) rfl ?_
  rw [st_at 3 2 0 _ ⟨zzOut, true, true⟩ [.sc (.int .i64 o.fLast), x, z] H _ h2 (cells3 rfl lx lz) rfl (Nat.le_of_ble_eq_true rfl) rfl]
  refine w_ldA (ds := [.sc (.int .i64 o.fLast), x, z]) (cs := [.sc (.int .i64 o.fLast), x, z]) (by rw [List.getElem?_set_self l2]; rfl) (Nat.le_of_ble_eq_true rfl) rfl ?_
  generalize hb : (⟨splice zzOut 0 [.sc (.int .i64 o.fLast), x, z], true, true⟩ : Blk) = b
  have e1 := own_frame (H' := H.set 2 b) 6 _ _ _ ox fun i hi => by rw [List.getElem?_set_ne (fun (e : 2 = i) => n1 (e ▸ hi))]
  have e2 := own_frame (H' := H.set 2 b) 6 _ _ _ oz fun i hi => by rw [List.getElem?_set_ne (fun (e : 2 = i) => n2 (e ▸ hi))]
  obtain ⟨i, hi, hcy⟩ := tyOut
  have e3 : ownT ti0 E0.tp (H.set 2 b) 7 45 (.agg [.sc (.int .i64 o.fLast), x, z]) = some (.agg (encOut { o with fQ := q' }), ids1 ++ ids2) := by
    rw [ownT_agg, hi, Option.bind_some, hcy]
    simp only [ctyOut, ownL, ownT_sc, e1, e2, Option.bind_some, List.nil_append, List.append_nil]
    rfl
  have e4 : ownL (ownT ti0 E0.tp (H.set 2 b) 7) [45, 3] [.agg [.sc (.int .i64 o.fLast), x, z], .sc (.int .i64 c)] = some ([.agg (encOut { o with fQ := q' }), .sc (.int .i64 c)], ids1 ++ ids2) := by
    simp only [ownL, e3, ownT_sc, Option.bind_some, List.append_nil]
  exact tup_own rfl e4 hn
theorem inst_out (N : Nat) (o : OutV) : instL ti0 E0.tp N ctyOut (encOut o) = ([.sc (.int .i64 o.fLast), (instT ti0 E0.tp N 43 (rowsC encFlight o.fFl)).1, (instT ti0 E0.tp (N + (instT ti0 E0.tp N 43 (rowsC encFlight o.fFl)).2.length) 34 (rowsC encMsg o.fQ)).1], (instT ti0 E0.tp N 43 (rowsC encFlight o.fFl)).2 ++ (instT ti0 E0.tp (N + (instT ti0 E0.tp N 43 (rowsC encFlight o.fFl)).2.length) 34 (rowsC encMsg o.fQ)).2) := by
  show instL ti0 E0.tp N [3, 43, 34] [.sc (.int .i64 o.fLast), rowsC encFlight o.fFl, rowsC encMsg o.fQ] = _
  simp only [instL, List.headD_cons, List.tail_cons, instT_sc, List.length_nil, Nat.add_zero, List.nil_append, List.append_nil]
theorem inst_tupP (N : Nat) (q : List MsgV) (c : Int) : instT ti0 E0.tp N 70 (.tup [rowsC encMsg q, .sc (.int .i64 c)]) = (.tup [(instT ti0 E0.tp N 34 (rowsC encMsg q)).1, .sc (.int .i64 c)], (instT ti0 E0.tp N 34 (rowsC encMsg q)).2) := by
  rw [instT_tup, show E0.tp 70 = some [34, 3] from rfl, Option.getD_some]
  simp only [instL, List.headD_cons, List.tail_cons, instT_sc, List.append_nil]
theorem leaf_rows {α : Type} (N ty : Nat) (enc : α → List AV) (l : List α) : isLeaf (instT ti0 E0.tp N ty (rowsC enc l)).1 = true := rfl


/-- The beginning: what goes out is copied. -/
theorem out_pre {n gC : Nat} {o : OutV} {m : MsgV} {K : AV → AV → AV → AV → Heap → Option AV} {r : Option AV} (hC : plainF gC = false) (tC : tree E0 n 45 gC [.agg (encOut o)] = some (.agg (encOut o)))
    (h : ∀ (X Q : AV × List Blk), instT ti0 E0.tp 3 43 (rowsC encFlight o.fFl) = X → instT ti0 E0.tp (3 + X.2.length) 34 (rowsC encMsg o.fQ) = Q → K (.ptr 0 0) (.ptr 1 0) (.ptr 2 0) (.ptr (3 + (X.2.length + Q.2.length)) 0) ([⟨encOut o, true, true⟩, ⟨encMsg m, true, true⟩, ⟨zzOut, true, true⟩] ++ (X.2 ++ Q.2) ++ [⟨[.sc (.int .i64 o.fLast), X.1, Q.1], true, true⟩]) = r) :
    (pBox (.agg (encOut o)) [] fun t2 H => pBox (.agg (encMsg m)) H fun t3 H => pNew [.sc (.int .i64 0), .nl, .nl] H fun t4 H => pLoad true 3 t2 H fun t9 => (PR n AV).call 45 (.fn gC [] []) [t9] H fun t10 H => pNew [.sc (.int .i64 0), .nl, .nl] H fun t6 H => pStore 3 t6 t10 H fun H => K t2 t3 t4 t6 H) = r := by
  rw [box_fl _ _ _ (flOut o), box_fl _ _ _ (flMsg m)]
  simp only [pNew, List.length_nil, List.nil_append, List.length_cons, Nat.zero_add, List.length_append, List.cons_append]
  refine w_ldA (ds := encOut o) (cs := encOut o) rfl (Nat.le_of_ble_eq_true rfl) rfl ?_
  rw [PR_call hC (vcons (Vw_agg _ (flOut _)) vnil) tC]
  obtain ⟨i, hi, hc⟩ := tyOut
  rw [instT_agg, hi, Option.getD_some, hc, inst_out]
  have hlX := leaf_rows 3 43 encFlight o.fFl
  generalize hX : instT ti0 E0.tp 3 43 (rowsC encFlight o.fFl) = X at hlX
  have hlQ := leaf_rows (3 + X.2.length) 34 encMsg o.fQ
  generalize hQ : instT ti0 E0.tp (3 + X.2.length) 34 (rowsC encMsg o.fQ) = Q at hlQ
  have hX' : instT ti0 E0.tp ([⟨encOut o, true, true⟩, ⟨encMsg m, true, true⟩, ⟨[.sc (.int .i64 0), .nl, .nl], true, true⟩] : Heap).length 43 (rowsC encFlight o.fFl) = X := hX
  have hQ' : instT ti0 E0.tp (([⟨encOut o, true, true⟩, ⟨encMsg m, true, true⟩, ⟨[.sc (.int .i64 0), .nl, .nl], true, true⟩] : Heap).length + X.2.length) 34 (rowsC encMsg o.fQ) = Q := hQ
  have hh := h X Q hX hQ
  simp only [hX', hQ']
  generalize hb0 : (⟨encOut o, true, true⟩ : Blk) = b0 at hh ⊢
  generalize hb1 : (⟨encMsg m, true, true⟩ : Blk) = b1 at hh ⊢
  have hN : ([b0, b1, ⟨zzOut, true, true⟩] ++ (X.2 ++ Q.2) : Heap).length = 3 + (X.2.length + Q.2.length) := by simp; omega
  have hg : ([b0, b1, ⟨zzOut, true, true⟩] ++ (X.2 ++ Q.2) ++ [⟨zzOut, true, true⟩] : Heap)[3 + (X.2.length + Q.2.length)]? = some ⟨zzOut, true, true⟩ := by
    rw [← hN]
    exact get_at _ _ []
  have hs : ([b0, b1, ⟨zzOut, true, true⟩] ++ (X.2 ++ Q.2) ++ [⟨zzOut, true, true⟩] : Heap).set (3 + (X.2.length + Q.2.length)) ⟨splice zzOut 0 [.sc (.int .i64 o.fLast), X.1, Q.1], true, true⟩ = [b0, b1, ⟨zzOut, true, true⟩] ++ (X.2 ++ Q.2) ++ [⟨[.sc (.int .i64 o.fLast), X.1, Q.1], true, true⟩] := by
    rw [← hN]
    exact set_at _ _ _ []
  have hst := st_at (β := AV) 3 (3 + (X.2.length + Q.2.length)) 0 (.agg [.sc (.int .i64 o.fLast), X.1, Q.1]) ⟨zzOut, true, true⟩ [.sc (.int .i64 o.fLast), X.1, Q.1] ([b0, b1, ⟨zzOut, true, true⟩] ++ (X.2 ++ Q.2) ++ [⟨zzOut, true, true⟩]) (fun H => K (.ptr 0 0) (.ptr 1 0) (.ptr 2 0) (.ptr (3 + (X.2.length + Q.2.length)) 0) H) hg (cells3 rfl hlX hlQ) rfl (Nat.le_of_ble_eq_true rfl) rfl
  rw [hs] at hst
  have e : pStore 3 (.ptr ([b0, b1, ⟨zzOut, true, true⟩] ++ (X.2 ++ Q.2) : Heap).length 0) (.agg [.sc (.int .i64 o.fLast), X.1, Q.1]) ([b0, b1, ⟨zzOut, true, true⟩] ++ (X.2 ++ Q.2) ++ [⟨zzOut, true, true⟩]) (fun H => K (.ptr 0 0) (.ptr 1 0) (.ptr 2 0) (.ptr ([b0, b1, ⟨zzOut, true, true⟩] ++ (X.2 ++ Q.2) : Heap).length 0) H) = r := by
    rw [hN]
    exact hst.trans hh
  exact e

theorem outPush_any {n gC gO gP : Nat} {o : OutV} {m : MsgV} {q' : List MsgV} {c : Int} {ok : Bool} (hC : plainF gC = false) (hO : plainF gO = false) (hP : plainF gP = false) (tC : tree E0 n 45 gC [.agg (encOut o)] = some (.agg (encOut o)))
    (tO : tree E0 n 4 gO [.agg (encOut o)] = some (.sc (.bool ok))) (tP : tree E0 n 70 gP [rowsC encMsg o.fQ, .agg (encMsg m)] = some (.tup [rowsC encMsg q', .sc (.int .i64 c)])) :
    (pBox (.agg (encOut o)) [] fun t2 H => pBox (.agg (encMsg m)) H fun t3 H => pNew [.sc (.int .i64 0), .nl, .nl] H fun t4 H => pLoad true 3 t2 H fun t9 => (PR n AV).call 45 (.fn gC [] []) [t9] H fun t10 H => pNew [.sc (.int .i64 0), .nl, .nl] H fun t6 H => pStore 3 t6 t10 H fun H => pLoad true 3 t2 H fun t11 => (PR n AV).call 4 (.fn gO [] []) [t11] H fun t12 H => pUn .not t12 fun t13 => pCond t13
      (pLoad true 3 t6 H fun t14 => pStore 3 t4 t14 H fun H => pLoad true 3 t4 H fun r0 => ownTree ti0 E0.tp 75 H (packA [r0, .sc (.int .i64 2)]))
      (pFadr 2 t2 fun t16 => pLoad false 1 t16 H fun t17 => pLoad true 4 t3 H fun t18 => (PR n AV).call 70 (.fn gP [] []) [t17, t18] H fun t19 H => pExtr t19 0 fun t20 => pExtr t19 1 fun t21 => pFadr 2 t6 fun t23 => pStore 1 t23 t20 H fun H => pLoad true 3 t6 H fun t24 => pStore 3 t4 t24 H fun H => pLoad true 3 t4 H fun r0 => ownTree ti0 E0.tp 75 H (packA [r0, t21]))) =
    some (.tup [.agg (encOut (if ok then { o with fQ := q' } else o)), .sc (.int .i64 (if ok then c else 2))]) := by
  refine out_pre hC tC fun X Q hX hQ => ?_
  have hlX : isLeaf X.1 = true := by rw [← hX]; exact leaf_rows _ _ _ _
  have hlQ : isLeaf Q.1 = true := by rw [← hQ]; exact leaf_rows _ _ _ _
  generalize hb0 : (⟨encOut o, true, true⟩ : Blk) = b0
  generalize hb1 : (⟨encMsg m, true, true⟩ : Blk) = b1
  have hN : ([b0, b1, ⟨zzOut, true, true⟩] ++ (X.2 ++ Q.2) : Heap).length = 3 + (X.2.length + Q.2.length) := by simp; omega
  have own1 : ∀ R : Heap, ownT ti0 E0.tp ([b0, b1, ⟨zzOut, true, true⟩] ++ (X.2 ++ Q.2) ++ R) 6 43 X.1 = some (rowsC encFlight o.fFl, List.range' 3 X.2.length) := by
    intro R
    rw [← hX]
    refine own_inst 6 _ _ 3 (okW_rows (d := 5) lenFlight tyFlightS (okWFlight 3) o.fFl) ?_
    rw [hX]
    have := Lies_in [b0, b1, ⟨zzOut, true, true⟩] X.2 (Q.2 ++ R)
    rw [List.append_assoc] at this
    rw [List.append_assoc, List.append_assoc]
    exact this
  have own2' : ∀ R : Heap, ownT ti0 E0.tp ([b0, b1, ⟨zzOut, true, true⟩] ++ (X.2 ++ Q.2) ++ R) 6 34 Q.1 = some (rowsC encMsg o.fQ, List.range' (3 + X.2.length) Q.2.length) := by
    intro R
    rw [← hQ]
    refine own_inst 6 _ _ (3 + X.2.length) (okW_rows (d := 5) lenMsg tyMsgS (okWMsg 3) o.fQ) ?_
    rw [hQ]
    have := Lies_in ([b0, b1, ⟨zzOut, true, true⟩] ++ X.2) Q.2 R
    rw [List.length_append, List.append_assoc [b0, b1, ⟨zzOut, true, true⟩] X.2 Q.2] at this
    exact this
  have g0 : ∀ R : Heap, ([b0, b1, ⟨zzOut, true, true⟩] ++ (X.2 ++ Q.2) ++ R : Heap)[0]? = some ⟨encOut o, true, true⟩ := fun R => by rw [hb0]; rfl
  have g1 : ∀ R : Heap, ([b0, b1, ⟨zzOut, true, true⟩] ++ (X.2 ++ Q.2) ++ R : Heap)[1]? = some ⟨encMsg m, true, true⟩ := fun R => by rw [hb1]; rfl
  have g2 : ∀ R : Heap, ([b0, b1, ⟨zzOut, true, true⟩] ++ (X.2 ++ Q.2) ++ R : Heap)[2]? = some ⟨zzOut, true, true⟩ := fun R => rfl
  generalize hA : ([b0, b1, ⟨zzOut, true, true⟩] ++ (X.2 ++ Q.2) : Heap) = A at hN own1 own2' g0 g1 g2 ⊢
  refine lw_ld (g0 _) (lenOut _) ?_
  refine lw_sc hO (vcons (Vw_agg _ (flOut _)) vnil) tO ?_
  refine w_not ?_
  cases ok
  · refine w_cT rfl ?_
    refine out_fin (q' := o.fQ) (by rw [← hN]; exact get_at A _ []) (g2 _) hlX hlQ (own1 _) (own2' _) ?_ ?_ ?_
    · have := List.range'_append (s := 3) (m := X.2.length) (n := Q.2.length) (step := 1)
      rw [Nat.one_mul] at this
      rw [this]
      exact List.nodup_range'
    · rw [List.mem_range'_1]; omega
    · rw [List.mem_range'_1]; omega
  · refine w_cF rfl ?_
    refine w_fadr ?_
    refine w_ld (c := rowsC encMsg o.fQ) (g0 _) (Nat.le_of_ble_eq_true rfl) rfl ?_
    refine lw_ld (g1 _) (lenMsg _) ?_
    rw [PR_call hP (vcons (Vw_ro _ _ _) (vcons (Vw_agg _ (flMsg _)) vnil)) tP, inst_tupP]
    have hlP := leaf_rows (A ++ [⟨[.sc (.int .i64 o.fLast), X.1, Q.1], true, true⟩] : Heap).length 34 encMsg q'
    generalize hP : instT ti0 E0.tp (A ++ [⟨[.sc (.int .i64 o.fLast), X.1, Q.1], true, true⟩] : Heap).length 34 (rowsC encMsg q') = P at hlP
    refine w_extr (x := P.1) rfl ?_
    refine w_extr (x := .sc (.int .i64 c)) rfl ?_
    refine w_fadr ?_
    have hg : (A ++ [⟨[.sc (.int .i64 o.fLast), X.1, Q.1], true, true⟩] ++ P.2 : Heap)[3 + (X.2.length + Q.2.length)]? = some ⟨[.sc (.int .i64 o.fLast), X.1, Q.1], true, true⟩ := by
      rw [← hN, List.append_assoc]
      exact get_at A _ P.2
    rw [st_at 1 (3 + (X.2.length + Q.2.length)) (0 + 2) P.1 _ [P.1] _ _ hg (leaf_cells hlP) rfl (Nat.le_of_ble_eq_true rfl) rfl]
    have hs : (A ++ [⟨[.sc (.int .i64 o.fLast), X.1, Q.1], true, true⟩] ++ P.2 : Heap).set (3 + (X.2.length + Q.2.length)) ⟨splice [.sc (.int .i64 o.fLast), X.1, Q.1] (0 + 2) [P.1], true, true⟩ = A ++ (⟨[.sc (.int .i64 o.fLast), X.1, P.1], true, true⟩ :: P.2) := by
      rw [← hN, List.append_assoc]
      exact set_at A _ _ P.2
    rw [hs]
    have oP : ownT ti0 E0.tp (A ++ (⟨[.sc (.int .i64 o.fLast), X.1, P.1], true, true⟩ :: P.2)) 6 34 P.1 = some (rowsC encMsg q', List.range' (A.length + 1) P.2.length) := by
      have hP2 : instT ti0 E0.tp (A.length + 1) 34 (rowsC encMsg q') = P := by
        rw [← hP, List.length_append, List.length_singleton]
      rw [← hP2]
      refine own_inst 6 _ _ (A.length + 1) (okW_rows (d := 5) lenMsg tyMsgS (okWMsg 3) q') ?_
      rw [hP2]
      have := Lies_end (A ++ [⟨[.sc (.int .i64 o.fLast), X.1, P.1], true, true⟩]) P.2
      rw [List.length_append, List.length_singleton, List.append_assoc] at this
      exact this
    refine out_fin (q' := q') (by rw [← hN]; exact get_at A _ P.2) (g2 _) hlX hlP (own1 _) oP ?_ ?_ ?_
    · rw [List.nodup_append]
      refine ⟨List.nodup_range', List.nodup_range', fun a ha b hb => ?_⟩
      rw [List.mem_range'_1] at ha hb
      omega
    · rw [List.mem_range'_1]; omega
    · rw [List.mem_range'_1]; omega

def vOutPush (o : OutV) (m : MsgV) : OutV := if vOutOk o then { o with fQ := vPush o.fQ m } else o
def vOutPushC (o : OutV) (m : MsgV) : Int := if vOutOk o then vPushC o.fQ m else 2
theorem smOC (o : OutV) (h : wtOut o ≤ 1048576) : smOutC o := by
  have h1 := smwOut o h
  exact ⟨⟨h1.1.1, fun y hy => (h1.1.2 y hy).1⟩, ⟨h1.2.1.1, fun y hy => (h1.2.1.2 y hy).1⟩⟩
theorem specF_OutPush (n : Nat) (hn : 1048576 < n) (x0 : OutV) (x1 : MsgV) (k0 : okOut x0) (k1 : okMsg x1) (b0 : wtOut x0 ≤ 1048576) (b1 : wtMsg x1 ≤ 1048576) : tree E0 (n + 11) 75 44 [.agg (encOut x0), .agg (encMsg x1)] = some (.tup [.agg (encOut (vOutPush x0 x1)), .sc (.int .i64 (vOutPushC x0 x1))]) := by
  rw [tree_def, f44_eq, f44]
  simp only [PR_box, PR_new, PR_load, PR_store, PR_fadr, PR_un, PR_cond, PR_extr]
  exact outPush_any rfl rfl rfl (l13CopyF (n + 6) (by omega) x0 (smOC x0 b0)) (specOutF n hn _ x0 b0) (specF_Push (n + 2) (by omega) x0.fQ x1 k0.2.2 k1 (by unfold wtOut at b0; omega) b1)
theorem implF_OutPush (n : Nat) (hn : 1048576 < n) (x0 : OutV) (x1 : MsgV) (k0 : okOut x0) (k1 : okMsg x1) (b0 : wtOut x0 ≤ 1048576) (b1 : wtMsg x1 ≤ 1048576) : tree E0 (n + 11) 75 45 [.agg (encOut x0), .agg (encMsg x1)] = some (.tup [.agg (encOut (vOutPush x0 x1)), .sc (.int .i64 (vOutPushC x0 x1))]) := by
  rw [tree_def, f45_eq, f45]
  simp only [PR_box, PR_new, PR_load, PR_store, PR_fadr, PR_un, PR_cond, PR_extr]
  exact outPush_any rfl rfl rfl (copyOutF (n + 6) (by omega) x0 (smOC x0 b0)) (implOutF n hn _ x0 b0) (implF_Push (n + 1) (by omega) x0.fQ x1 k0.2.2 k1 (by unfold wtOut at b0; omega) b1)
theorem fl_small : ∀ (l pre : List FlightV), flGo pre l = true → wtL wtFlight l ≤ 101 * l.length
  | [], _, _ => Nat.zero_le _
  | x :: l, pre, h => by
    rw [flGo, Bool.and_eq_true] at h
    have h1 : vMsgOk x.fM = true := by
      have := h.1
      simp only [Bool.and_eq_true] at this
      exact this.1.1.2
    have h2 := msg_small x.fM h1
    have h3 := fl_small l _ h.2
    have e : wtL wtFlight (x :: l) = 1 + (wtMsg x.fM + 0) + wtL wtFlight l := rfl
    rw [List.length_cons]
    omega
theorem out_small (o : OutV) (h : vOutOk o = true) : wtL wtFlight o.fFl ≤ 303 ∧ wtL wtMsg o.fQ ≤ 606 := by
  unfold vOutOk at h
  simp only [Bool.and_eq_true, decide_eq_true_eq] at h
  have h1 := fl_small o.fFl [] h.1
  have hq := h.2.2
  unfold vQueueOk at hq
  simp only [Bool.and_eq_true, decide_eq_true_eq] at hq
  have h2 := queue_small o.fQ hq.1
  have h3 := h.2.1.2
  have h4 := hq.2
  omega
theorem outPush_wt (x0 : OutV) (x1 : MsgV) (b0 : wtOut x0 ≤ 1048576) : wtOut (vOutPush x0 x1) ≤ 1048576 := by
  unfold vOutPush
  split
  · rename_i h
    obtain ⟨h1, h2⟩ := out_small x0 h
    have h3 := (push_wt x0.fQ x1 (by omega)).1
    show wtL wtFlight x0.fFl + (wtL wtMsg (vPush x0.fQ x1) + 0) ≤ _
    omega
  · exact b0
theorem resF_OutPush_0 (x0 : OutV) (x1 : MsgV) (b0 : wtOut x0 ≤ 1048576) (b1 : wtMsg x1 ≤ 1048576) : wtOut (vOutPush x0 x1) ≤ 1048576 ∧ smOut (vOutPush x0 x1) := ⟨outPush_wt x0 x1 b0, smwOut _ (outPush_wt x0 x1 b0)⟩

end Go.Proofs.YtpcgppelelfmiaaDoor.Abs
