/- What goes out, copied, as both sides do it. -/
import Derived.Test.YtfpmccedangjoaaVCopy
import Derived.Test.YtfpmccedangjoaaOwnI
set_option linter.unusedVariables false
set_option linter.unusedSimpArgs false
set_option maxRecDepth 100000
namespace Go.Proofs.Ytfpmccedangjoaa.Abs
open Go

variable {β : Type} {n : Nat} {r : Option β}

theorem w_el {α : Type} {w : Nat} {enc : α → List AV} {l pre t : List α} {x : α} {K : AV → Option β} (hw : ∀ x, (enc x).length = w) (h0 : 0 < w) (hl : l = pre ++ x :: t) (h : K (.rp (enc x ++ (t.map enc).flatten)) = r) : pIadr w (rowsC enc l) (.sc (.int .i64 (pre.length : Int))) (fun t => K t) = r := by
  subst hl
  exact (el_ro (β := β) hw h0 pre x t (fun t => K t)).trans h
theorem inst_b (N : Nat) (s : ByteArray) : instT ti0 E0.tp N 73 (bytesC s) = (.sl N 0 s.size 1, [⟨bytesAV s, true, true⟩]) := by
  obtain ⟨i, j, h1, h2, h3, h4⟩ := tyByteS
  show instT ti0 E0.tp N 73 (.ro s.size (bytesAV s)) = _
  simp only [instT, h1, Option.bind_some, h2, Option.getD_some, h3, bytesAV_eq, instL_sc]
theorem inst_msg (N : Nat) (m : MsgV) : instL ti0 E0.tp N ctyMsg (encMsg m) = ([.sc (.string m.fTopic), .sl N 0 m.fBody.size 1, .sc (.int .i64 m.fQos), .sc (.bool m.fRetain)], [⟨bytesAV m.fBody, true, true⟩]) := by
  have h := inst_b N m.fBody
  show instL ti0 E0.tp N [9, 73, 3, 4] [.sc (.string m.fTopic), bytesC m.fBody, .sc (.int .i64 m.fQos), .sc (.bool m.fRetain)] = _
  simp only [instL, List.headD_cons, List.tail_cons, instT_sc, List.length_nil, Nat.add_zero, h, List.nil_append, List.append_nil]
theorem inst_flight (N : Nat) (f : FlightV) : instL ti0 E0.tp N ctyFlight (encFlight f) = ([.sc (.int .i64 f.fId), .sc (.string f.fM.fTopic), .sl N 0 f.fM.fBody.size 1, .sc (.int .i64 f.fM.fQos), .sc (.bool f.fM.fRetain), .sc (.int .i64 f.fSt)], [⟨bytesAV f.fM.fBody, true, true⟩]) := by
  have h := inst_b N f.fM.fBody
  show instL ti0 E0.tp N [3, 9, 73, 3, 4, 3] [.sc (.int .i64 f.fId), .sc (.string f.fM.fTopic), bytesC f.fM.fBody, .sc (.int .i64 f.fM.fQos), .sc (.bool f.fM.fRetain), .sc (.int .i64 f.fSt)] = _
  simp only [instL, List.headD_cons, List.tail_cons, instT_sc, List.length_nil, Nat.add_zero, h, List.nil_append, List.append_nil]

/-- One more that is on the way is copied behind the others. -/
theorem flight_step {te g k : Nat} {H X0 : Heap} {x : AV} {cells : List AV} {ids : List Nat} {args : List AV} {f : FlightV} {K : AV → Heap → Option β} (hx : OwnSI 6 H 6 ctyFlight x k cells ids) (hh : plainF g = false) (hv : args.mapM (viewV (H ++ X0) 8) = some [.agg (encMsg f.fM)]) (ht : tree E0 n te g [.agg (encMsg f.fM)] = some (.agg (encMsg f.fM)))
    (hte : ∃ i, ti0 te = some i ∧ i.cty = ctyMsg) (hb : (k + 1) * 72 ≤ 140737488355328)
    (h : ∀ x' H' ids', OwnSI 6 H' 6 ctyFlight x' (k + 1) (cells ++ encFlight f) ids' → (∀ i ∈ ids', i ∈ ids ∨ H.length ≤ i) → (∀ i, i < H.length → i ∉ ids → H'[i]? = H[i]?) → H.length ≤ H'.length → K x' H' = r) :
    ((PR n β).call te (.fn g [] []) args (H ++ X0) fun t G => (fillA zzFlight [(0, 1, .sc (.int .i64 f.fId)), (1, 4, t), (5, 1, .sc (.int .i64 f.fSt))]).bind fun c => (fillA zzFlight [(0, 6, .agg c)]).bind fun ct => pNewSl 1 6 ct true G fun y G => pApp 6 72 x y G K) = r := by
  obtain ⟨i, hi, hc⟩ := hte
  rw [PR_call hh hv ht, instT_agg, hi, Option.getD_some, hc, inst_msg]
  simp only
  have hf : fillA zzFlight [(0, 1, .sc (.int .i64 f.fId)), (1, 4, .agg [.sc (.string f.fM.fTopic), .sl (H ++ X0).length 0 f.fM.fBody.size 1, .sc (.int .i64 f.fM.fQos), .sc (.bool f.fM.fRetain)]), (5, 1, .sc (.int .i64 f.fSt))] = some [.sc (.int .i64 f.fId), .sc (.string f.fM.fTopic), .sl (H ++ X0).length 0 f.fM.fBody.size 1, .sc (.int .i64 f.fM.fQos), .sc (.bool f.fM.fRetain), .sc (.int .i64 f.fSt)] := rfl
  rw [hf, Option.bind_some, fill_all (w := 6) rfl rfl rfl, Option.bind_some]
  have key := app_oneI (H := H) (X := X0 ++ [⟨bytesAV f.fM.fBody, true, true⟩]) (bytes := 72) (er := (instL ti0 E0.tp (H ++ X0).length ctyFlight (encFlight f)).1) (ec := encFlight f) (eids := List.range' (H ++ X0).length (instL ti0 E0.tp (H ++ X0).length ctyFlight (encFlight f)).2.length) (K := K) (r := r) hx (by rw [inst_flight]; rfl) (by rw [inst_flight]; rfl) (by
      have := own_new (d := 6) (H := H ++ X0) (okWFlight 4 f)
      rw [inst_flight] at this ⊢
      rwa [List.append_assoc] at this) List.nodup_range' (fun j hj => by
      rw [List.mem_range'_1] at hj
      have := hj.1
      simp at this
      omega) hb h
  rw [inst_flight, ← List.append_assoc] at key
  exact key

/-- A copy that is being made: in its block io. -/
structure OutI (H : Heap) (io i2 i1 : Nat) (o : OutV) (x q : AV) (k : Nat) (cells : List AV) (ids qids : List Nat) : Prop where
  ho : H[io]? = some ⟨[.sc (.int .i64 o.fLast), x, q], true, true⟩
  hs : OwnSI 6 H 6 ctyFlight x k cells ids
  hq : ownT ti0 E0.tp H 7 44 q = some (rowsC encMsg o.fQ, qids)
  qn : qids.Nodup
  hz : ∃ z2, H[i2]? = some ⟨z2, true, true⟩ ∧ z2.length = 3
  src : H[i1]? = some ⟨encOut o, true, true⟩
  ne : io ≠ i2
  ne1 : i1 ≠ io
  ne2 : i1 ≠ i2
  o1 : io ∉ ids
  o2 : io ∉ qids
  z1 : i2 ∉ ids
  z2 : i2 ∉ qids
  s1 : i1 ∉ ids
  dj : ∀ i ∈ qids, i ∉ ids

theorem OutI.lt {H : Heap} {io i2 i1 : Nat} {o : OutV} {x q : AV} {k : Nat} {cells : List AV} {ids qids : List Nat} (h : OutI H io i2 i1 o x q k cells ids qids) : io < H.length ∧ i2 < H.length ∧ i1 < H.length ∧ ∀ i ∈ qids, i < H.length := by
  obtain ⟨z2, hz, _⟩ := h.hz
  exact ⟨(List.getElem?_eq_some_iff.1 h.ho).1, (List.getElem?_eq_some_iff.1 hz).1, (List.getElem?_eq_some_iff.1 h.src).1, own_lt 7 _ _ _ h.hq⟩
/-- What is appended is put into its place. -/
theorem OutI.put {H H' : Heap} {io i2 i1 : Nat} {o : OutV} {x x' q : AV} {k : Nat} {cells ec : List AV} {ids ids' qids : List Nat} {K : Heap → Option β} (h : OutI H io i2 i1 o x q k cells ids qids)
    (h1 : OwnSI 6 H' 6 ctyFlight x' (k + 1) (cells ++ ec) ids') (h2 : ∀ i ∈ ids', i ∈ ids ∨ H.length ≤ i) (h3 : ∀ i, i < H.length → i ∉ ids → H'[i]? = H[i]?) (hk : ∀ H'', OutI H'' io i2 i1 o x' q (k + 1) (cells ++ ec) ids' qids → K H'' = r) :
    pStore 1 (.ptr io (0 + 1)) x' H' K = r := by
  obtain ⟨l1, l2, l3, l4⟩ := h.lt
  have hlf : cellsA x' = some [x'] := by
    rcases h1 with ⟨_, h0, _⟩ | ⟨id, raw, is, _, rfl, _⟩
    · omega
    · rfl
  have ho : H'[io]? = some ⟨[.sc (.int .i64 o.fLast), x, q], true, true⟩ := by rw [h3 io l1 h.o1]; exact h.ho
  have hio : io < H'.length := (List.getElem?_eq_some_iff.1 ho).1
  rw [st_at 1 io (0 + 1) x' _ [x'] H' K ho hlf rfl (Nat.le_of_ble_eq_true rfl) rfl]
  have hni : io ∉ ids' := fun hm => by
    rcases h2 io hm with h' | h'
    · exact h.o1 h'
    · omega
  refine hk _ ⟨?_, ?_, ?_, h.qn, ?_, ?_, h.ne, h.ne1, h.ne2, hni, h.o2, ?_, h.z2, ?_, ?_⟩
  · rw [List.getElem?_set_self hio]
    rfl
  · refine h1.frame fun i hi => ?_
    rw [List.getElem?_set_ne (fun (e : io = i) => hni (e ▸ hi))]
  · refine own_frame 7 _ _ _ h.hq fun i hi => ?_
    rw [List.getElem?_set_ne (fun (e : io = i) => h.o2 (e ▸ hi)), h3 i (l4 i hi) (h.dj i hi)]
  · obtain ⟨z2, hz, hl⟩ := h.hz
    exact ⟨z2, by rw [List.getElem?_set_ne h.ne, h3 i2 l2 h.z1]; exact hz, hl⟩
  · rw [List.getElem?_set_ne (fun e => h.ne1 e.symm), h3 i1 l3 h.s1]
    exact h.src
  · intro hm
    rcases h2 i2 hm with h' | h'
    · exact h.z1 h'
    · omega
  · intro hm
    rcases h2 i1 hm with h' | h'
    · exact h.s1 h'
    · omega
  · intro i hi hm
    rcases h2 i hm with h' | h'
    · exact h.dj i hi h'
    · have := l4 i hi
      omega
theorem OutI.fin {H : Heap} {io i2 i1 : Nat} {o : OutV} {x q : AV} {ids qids : List Nat} (h : OutI H io i2 i1 o x q o.fFl.length (o.fFl.map encFlight).flatten ids qids) :
    (pLoad true 3 (.ptr io 0) H fun t => pStore 3 (.ptr i2 0) t H fun H => pLoad true 3 (.ptr i2 0) H fun r0 => ownTree ti0 E0.tp 46 H r0) = some (.agg (encOut o)) := by
  obtain ⟨l1, l2, l3, l4⟩ := h.lt
  obtain ⟨z2, hz, hzl⟩ := h.hz
  have hx : isLeaf x = true := by
    rcases h.hs with ⟨rfl, _⟩ | ⟨id, raw, is, _, rfl, _⟩ <;> rfl
  have hq : isLeaf q = true := by
    have := h.hq
    cases q with
    | sc v => cases this
    | nl => rfl
    | sl => rfl
    | agg cs =>
      rw [ownT_agg] at this
      simp only [Option.bind_eq_some_iff] at this
      obtain ⟨_, _, _, _, h3⟩ := this
      cases h3
    | tup cs =>
      rw [ownT_tup] at this
      simp only [Option.bind_eq_some_iff] at this
      obtain ⟨_, _, _, _, h3⟩ := this
      cases h3
    | _ => simp [ownT] at this
  refine w_ldA (ds := [.sc (.int .i64 o.fLast), x, q]) h.ho (Nat.le_of_ble_eq_true rfl) rfl ?_
  have hc : cellsA (.agg [.sc (.int .i64 o.fLast), x, q]) = some [.sc (.int .i64 o.fLast), x, q] := by
    show (if (true && (isLeaf x && (isLeaf q && true))) = true then _ else none) = _
    rw [hx, hq]
    rfl
  rw [st_at 3 i2 0 _ ⟨z2, true, true⟩ [.sc (.int .i64 o.fLast), x, q] H _ hz hc rfl (by show 0 + 3 ≤ z2.length; omega) rfl]
  have hs : splice z2 0 [.sc (.int .i64 o.fLast), x, q] = [.sc (.int .i64 o.fLast), x, q] := by
    unfold splice
    rw [List.take_zero, List.nil_append, List.drop_of_length_le (by rw [hzl]; exact Nat.le_refl _), List.append_nil]
  simp only [hs]
  refine w_ldA (ds := [.sc (.int .i64 o.fLast), x, q]) (cs := [.sc (.int .i64 o.fLast), x, q]) (by rw [List.getElem?_set_self l2]) (Nat.le_of_ble_eq_true rfl) rfl ?_
  have e1 := (h.hs.frame (H' := H.set i2 ⟨[.sc (.int .i64 o.fLast), x, q], true, true⟩) fun i hi => by rw [List.getElem?_set_ne (fun (e : i2 = i) => h.z1 (e ▸ hi))]).res tyFlightS
  have e2 := own_frame (H' := H.set i2 ⟨[.sc (.int .i64 o.fLast), x, q], true, true⟩) 7 _ _ _ h.hq fun i hi => by rw [List.getElem?_set_ne (fun (e : i2 = i) => h.z2 (e ▸ hi))]
  obtain ⟨i, hi, hcy⟩ := tyOut
  rw [ownTree, ownT_agg, hi, Option.bind_some, hcy]
  simp only [ctyOut, ownL, ownT_sc, e1, e2, Option.bind_some, List.nil_append, List.append_nil]
  rw [if_pos]
  · rfl
  · rw [List.nodup_append]
    exact ⟨h.hs.nodup, h.qn, fun a ha b hb e => h.dj b hb (e ▸ ha)⟩

def smOutC (o : OutV) : Prop := (o.fFl.length ≤ 1048576 ∧ ∀ x ∈ o.fFl, x.fM.fBody.size ≤ 1048576) ∧ (o.fQ.length ≤ 1048576 ∧ ∀ x ∈ o.fQ, x.fBody.size ≤ 1048576)

/-- spec.l13Copy's loop. -/
theorem l13_loop (n : Nat) (hn : 1048576 < n) (o : OutV) (hs : smOutC o) (io i2 i1 : Nat) (q : AV) (qids : List Nat) : ∀ (t pre : List FlightV) (m : Nat) (x : AV) (H : Heap) (ids : List Nat), o.fFl = pre ++ t → t.length < m → OutI H io i2 i1 o x q pre.length (pre.map encFlight).flatten ids qids →
    f40_l0 (PR (n + 3) AV) (n + 3) (fun x H => ownTree ti0 E0.tp 46 H x) m (.ptr i1 0) (.ptr i2 0) (.ptr io 0) (.sc (.int .i64 pre.length)) H = some (.agg (encOut o))
  | [], pre, m + 1, x, H, ids, he, hm, hi => by
    rw [List.append_nil] at he
    show (PR (n + 3) AV).fadr _ _ _ = _
    simp only [PR_fadr, PR_load, PR_len, PR_bin, PR_cond, PR_store]
    refine w_fadr ?_
    refine w_ld (c := rowsC encFlight o.fFl) hi.src (Nat.le_of_ble_eq_true rfl) rfl ?_
    refine w_len ?_
    rw [lss_nat, cond_b, if_neg (by rw [he]; simp)]
    subst he
    exact hi.fin
  | y :: t, pre, m + 1, x, H, ids, he, hm, hi => by
    have hlt : pre.length < o.fFl.length := by rw [he]; simp
    have hy : y.fM.fBody.size ≤ 1048576 := hs.1.2 y (by rw [he]; simp)
    have hlen := hs.1.1
    show (PR (n + 3) AV).fadr _ _ _ = _
    simp only [PR_fadr, PR_load, PR_len, PR_bin, PR_cond, PR_store, PR_iadr, PR_fill, PR_newSl, PR_app]
    refine w_fadr ?_
    refine w_ld (c := rowsC encFlight o.fFl) hi.src (Nat.le_of_ble_eq_true rfl) rfl ?_
    refine w_len ?_
    rw [lss_nat, cond_b, if_pos (by simpa using hlt)]
    refine w_fadr ?_
    refine w_ld (c := x) hi.ho (Nat.le_of_ble_eq_true rfl) rfl ?_
    refine w_fadr ?_
    refine w_ld (c := rowsC encFlight o.fFl) hi.src (Nat.le_of_ble_eq_true rfl) rfl ?_
    refine w_el lenFlight (by decide) he ?_
    refine w_fadr_rp ?_
    refine w_ld_rp (c := .sc (.int .i64 y.fId)) rfl ?_
    refine w_fadr ?_
    refine w_ld (c := rowsC encFlight o.fFl) hi.src (Nat.le_of_ble_eq_true rfl) rfl ?_
    refine w_el lenFlight (by decide) he ?_
    refine w_fadr_rp ?_
    refine w_ldA_rp (ds := encMsg y.fM) (Nat.le_of_ble_eq_true rfl) rfl ?_
    refine w_fadr ?_
    refine w_ld (c := rowsC encFlight o.fFl) hi.src (Nat.le_of_ble_eq_true rfl) rfl ?_
    refine w_el lenFlight (by decide) he ?_
    refine w_fadr_rp ?_
    refine w_ld_rp (c := .sc (.int .i64 y.fSt)) rfl ?_
    have hst := fun K h => flight_step (β := AV) (n := n + 3) (X0 := []) (f := y) (K := K) (r := some (.agg (encOut o))) hi.hs rfl (vcons (Vw_agg _ (flMsg _)) vnil) (l12MsgF (n + 2) y.fM hy) tyMsg (by omega) h
    simp only [List.append_nil] at hst
    refine hst _ fun x' H' ids' h1 h2 h3 h4 => ?_
    refine w_fadr ?_
    refine hi.put h1 h2 h3 fun H'' hi' => ?_
    rw [inc_nat _ _ (by omega)]
    have ih := l13_loop n hn o hs io i2 i1 q qids t (pre ++ [y]) m x' H'' ids' (by rw [he]; simp) (by simpa using hm) (by
      rw [List.length_append, List.length_singleton, List.map_append, List.flatten_append]
      simpa using hi')
    rw [List.length_append, List.length_singleton] at ih
    exact ih
/-- impl.copyOut's loop. -/
theorem copyOut_loop (n : Nat) (hn : 1048576 < n) (o : OutV) (hs : smOutC o) (io i2 i1 : Nat) (q : AV) (qids : List Nat) : ∀ (t pre : List FlightV) (m : Nat) (x : AV) (H : Heap) (ids : List Nat), o.fFl = pre ++ t → t.length < m → OutI H io i2 i1 o x q pre.length (pre.map encFlight).flatten ids qids →
    f46_l0 (PR (n + 3) AV) (n + 3) (fun x H => ownTree ti0 E0.tp 46 H x) m (.ptr i2 0) (.ptr io 0) (rowsC encFlight o.fFl) (.sc (.int .i64 o.fFl.length)) (.sc (.int .i64 pre.length)) H = some (.agg (encOut o))
  | [], pre, m + 1, x, H, ids, he, hm, hi => by
    rw [List.append_nil] at he
    show (PR (n + 3) AV).bin _ _ _ _ = _
    simp only [PR_fadr, PR_load, PR_len, PR_bin, PR_cond, PR_store]
    rw [lss_nat, cond_b, if_neg (by rw [he]; simp)]
    subst he
    exact hi.fin
  | y :: t, pre, m + 1, x, H, ids, he, hm, hi => by
    have hlt : pre.length < o.fFl.length := by rw [he]; simp
    have hy : y.fM.fBody.size ≤ 1048576 := hs.1.2 y (by rw [he]; simp)
    have hlen := hs.1.1
    obtain ⟨l1, l2, l3, l4⟩ := hi.lt
    show (PR (n + 3) AV).bin _ _ _ _ = _
    simp only [PR_fadr, PR_load, PR_len, PR_bin, PR_cond, PR_store, PR_iadr, PR_fill, PR_newSl, PR_app, PR_new]
    rw [lss_nat, cond_b, if_pos (by simpa using hlt)]
    refine w_el lenFlight (by decide) he ?_
    refine w_ldA_rp (ds := encFlight y) (Nat.le_of_ble_eq_true rfl) rfl ?_
    refine lw_put rfl (lenFlight _) (fl_leaf (flFlight _)) fun i5 h5 => ?_
    refine w_fadr ?_
    refine w_ld (c := x) (blk_grow hi.ho _) (Nat.le_of_ble_eq_true rfl) rfl ?_
    refine w_fadr ?_
    refine w_ld (c := .sc (.int .i64 y.fId)) h5 (Nat.le_of_ble_eq_true rfl) rfl ?_
    refine w_fadr ?_
    refine w_ldA (ds := encMsg y.fM) h5 (Nat.le_of_ble_eq_true rfl) rfl ?_
    refine w_fadr ?_
    refine w_ld (c := .sc (.int .i64 y.fSt)) h5 (Nat.le_of_ble_eq_true rfl) rfl ?_
    refine flight_step (β := AV) (n := n + 3) (X0 := [⟨encFlight y, true, true⟩]) (f := y) (r := some (.agg (encOut o))) hi.hs rfl (vcons (Vw_agg _ (flMsg _)) vnil) (copyMsgF (n + 1) (by omega) y.fM hy) tyMsg (by omega) fun x' H' ids' h1 h2 h3 h4 => ?_
    refine w_fadr ?_
    refine hi.put h1 h2 h3 fun H'' hi' => ?_
    rw [inc_nat _ _ (by omega)]
    have ih := copyOut_loop n hn o hs io i2 i1 q qids t (pre ++ [y]) m x' H'' ids' (by rw [he]; simp) (by simpa using hm) (by
      rw [List.length_append, List.length_singleton, List.map_append, List.flatten_append]
      simpa using hi')
    rw [List.length_append, List.length_singleton] at ih
    exact ih

/-- The list is copied first, then its place is made. -/
theorem outI_a (o : OutV) (A : AV × List Blk) (hA : instT ti0 E0.tp 2 44 (rowsC encMsg o.fQ) = A) : OutI (([⟨encOut o, true, true⟩, ⟨zzOut, true, true⟩] ++ A.2 ++ [⟨zzOut, true, true⟩] : Heap).set (2 + A.2.length) ⟨[.sc (.int .i64 o.fLast), .nl, A.1], true, true⟩) (2 + A.2.length) 1 0 o .nl A.1 0 [] [] (List.range' 2 A.2.length) := by
  have hlen : ([⟨encOut o, true, true⟩, ⟨zzOut, true, true⟩] ++ A.2 : Heap).length = 2 + A.2.length := by simp; omega
  have e : ([⟨encOut o, true, true⟩, ⟨zzOut, true, true⟩] ++ A.2 ++ [⟨zzOut, true, true⟩] : Heap).set (2 + A.2.length) ⟨[.sc (.int .i64 o.fLast), .nl, A.1], true, true⟩ = [⟨encOut o, true, true⟩, ⟨zzOut, true, true⟩] ++ A.2 ++ [⟨[.sc (.int .i64 o.fLast), .nl, A.1], true, true⟩] := by
    rw [← hlen]
    exact set_at _ _ _ []
  rw [e]
  refine ⟨?_, OwnSI.nil _ _ _ _, ?_, List.nodup_range', ⟨zzOut, rfl, rfl⟩, rfl, by omega, by omega, by decide, by simp, ?_, by simp, ?_, by simp, by simp⟩
  · rw [← hlen]
    exact get_at _ _ []
  · rw [← hA]
    refine own_inst 7 _ _ 2 (okW_rows (d := 6) lenMsg tyMsgS (okWMsg 4) o.fQ) ?_
    rw [hA]
    exact Lies_in [(⟨encOut o, true, true⟩ : Blk), ⟨zzOut, true, true⟩] A.2 _
  · rw [List.mem_range'_1]; omega
  · rw [List.mem_range'_1]; omega
theorem outI_b (o : OutV) (A : AV × List Blk) (hA : instT ti0 E0.tp 3 44 (rowsC encMsg o.fQ) = A) : OutI (([⟨encOut o, true, true⟩, ⟨zzOut, true, true⟩, ⟨zzOut, true, true⟩] ++ A.2 : Heap).set 2 ⟨[.sc (.int .i64 o.fLast), .nl, A.1], true, true⟩) 2 1 0 o .nl A.1 0 [] [] (List.range' 3 A.2.length) := by
  refine ⟨rfl, OwnSI.nil _ _ _ _, ?_, List.nodup_range', ⟨zzOut, rfl, rfl⟩, rfl, by decide, by decide, by decide, by simp, ?_, by simp, ?_, by simp, by simp⟩
  · rw [← hA]
    refine own_inst 7 _ _ 3 (okW_rows (d := 6) lenMsg tyMsgS (okWMsg 4) o.fQ) ?_
    rw [hA]
    exact Lies_end [(⟨encOut o, true, true⟩ : Blk), ⟨zzOut, true, true⟩, (⟨[.sc (.int .i64 o.fLast), .nl, A.1], true, true⟩ : Blk)] A.2
  · rw [List.mem_range'_1]; omega
  · rw [List.mem_range'_1]; omega
theorem leaf_inst (N : Nat) (o : OutV) : isLeaf (instT ti0 E0.tp N 44 (rowsC encMsg o.fQ)).1 = true := rfl
theorem l13CopyF (n : Nat) (hn : 1048576 < n) (o : OutV) (hs : smOutC o) : tree E0 (n + 4) 46 40 [.agg (encOut o)] = some (.agg (encOut o)) := by
  rw [tree_def, f40_eq, f40]
  simp only [PR_box, PR_new, PR_fadr, PR_load, PR_both, PR_fill, PR_store, pNew]
  rw [box_fl _ _ _ (flOut o)]
  simp only [List.length_nil, List.nil_append, List.length_cons, Nat.zero_add]
  have hz : ([⟨[.sc (.int .i64 0), .nl, .nl], true, true⟩] : Heap) = [⟨zzOut, true, true⟩] := rfl
  rw [hz]
  have hH : ([⟨encOut o, true, true⟩] ++ [⟨zzOut, true, true⟩] : Heap)[0]? = some ⟨encOut o, true, true⟩ := rfl
  refine w_fadr ?_
  refine w_ld (c := .sc (.int .i64 o.fLast)) hH (Nat.le_of_ble_eq_true rfl) rfl ?_
  refine w_fadr ?_
  refine w_ld (c := rowsC encMsg o.fQ) hH (Nat.le_of_ble_eq_true rfl) rfl ?_
  refine pBoth_eq ?_ ?_
  · rw [PR_call (vs := [rowsC encMsg o.fQ]) rfl (vcons (Vw_ro _ _ _) vnil) (l12CopyF n hn o.fQ hs.2.1 hs.2.2)]
    have hl := leaf_inst 2 o
    generalize hA : instT ti0 E0.tp 2 44 (rowsC encMsg o.fQ) = A at hl
    have hA' : instT ti0 E0.tp ([⟨encOut o, true, true⟩] ++ [⟨zzOut, true, true⟩] : Heap).length 44 (rowsC encMsg o.fQ) = A := hA
    rw [hA']
    have hc1 : cellsA A.1 = some [A.1] := by
      generalize A.1 = y at hl
      cases y <;> first | (simp [isLeaf] at hl; done) | (simp only [cellsA, hl, if_true]) | rfl
    refine w_fill (cs := [.sc (.int .i64 o.fLast), .nl, A.1]) (by simp only [fillA, hc1]; rfl) ?_
    have hlen : ([⟨encOut o, true, true⟩] ++ [⟨zzOut, true, true⟩] ++ A.2 : Heap).length = 2 + A.2.length := by simp; omega
    have hg : ([⟨encOut o, true, true⟩] ++ [⟨zzOut, true, true⟩] ++ A.2 ++ [⟨zzOut, true, true⟩] : Heap)[2 + A.2.length]? = some ⟨zzOut, true, true⟩ := by
      rw [← hlen]
      exact get_at _ _ []
    have hc : cellsA (.agg [.sc (.int .i64 o.fLast), .nl, A.1]) = some [.sc (.int .i64 o.fLast), .nl, A.1] := by
      show (if (true && (true && (isLeaf A.1 && true))) = true then _ else none) = _
      rw [hl]
      rfl
    rw [hlen, st_at 3 (2 + A.2.length) 0 _ ⟨zzOut, true, true⟩ [.sc (.int .i64 o.fLast), .nl, A.1] _ _ hg hc rfl (Nat.le_of_ble_eq_true rfl) rfl]
    exact l13_loop n hn o hs (2 + A.2.length) 1 0 A.1 _ o.fFl [] (n + 3) .nl _ [] rfl (by have := hs.1.1; omega) (outI_a o A hA)
  · rw [PR_call (vs := [rowsC encMsg o.fQ]) rfl (vcons (Vw_ro _ _ _) vnil) (l12CopyF n hn o.fQ hs.2.1 hs.2.2)]
    have hl := leaf_inst 3 o
    generalize hA : instT ti0 E0.tp 3 44 (rowsC encMsg o.fQ) = A at hl
    have hA' : instT ti0 E0.tp ([⟨encOut o, true, true⟩] ++ [⟨zzOut, true, true⟩] ++ [⟨zzOut, true, true⟩] : Heap).length 44 (rowsC encMsg o.fQ) = A := hA
    rw [hA']
    have hc1 : cellsA A.1 = some [A.1] := by
      generalize A.1 = y at hl
      cases y <;> first | (simp [isLeaf] at hl; done) | (simp only [cellsA, hl, if_true]) | rfl
    refine w_fill (cs := [.sc (.int .i64 o.fLast), .nl, A.1]) (by simp only [fillA, hc1]; rfl) ?_
    have hc : cellsA (.agg [.sc (.int .i64 o.fLast), .nl, A.1]) = some [.sc (.int .i64 o.fLast), .nl, A.1] := by
      show (if (true && (true && (isLeaf A.1 && true))) = true then _ else none) = _
      rw [hl]
      rfl
    rw [show ([⟨encOut o, true, true⟩] ++ [⟨zzOut, true, true⟩] : Heap).length = 2 from rfl]
    rw [st_at 3 2 0 _ ⟨zzOut, true, true⟩ [.sc (.int .i64 o.fLast), .nl, A.1] _ _ rfl hc rfl (Nat.le_of_ble_eq_true rfl) rfl]
    exact l13_loop n hn o hs 2 1 0 A.1 _ o.fFl [] (n + 3) .nl _ [] rfl (by have := hs.1.1; omega) (outI_b o A hA)
theorem copyOutF (n : Nat) (hn : 1048576 < n) (o : OutV) (hs : smOutC o) : tree E0 (n + 4) 46 46 [.agg (encOut o)] = some (.agg (encOut o)) := by
  rw [tree_def, f46_eq, f46]
  simp only [PR_box, PR_new, PR_fadr, PR_load, PR_both, PR_fill, PR_store, PR_len, pNew]
  rw [box_fl _ _ _ (flOut o)]
  simp only [List.length_nil, List.nil_append, List.length_cons, Nat.zero_add]
  have hz : ([⟨[.sc (.int .i64 0), .nl, .nl], true, true⟩] : Heap) = [⟨zzOut, true, true⟩] := rfl
  rw [hz]
  have hH : ([⟨encOut o, true, true⟩] ++ [⟨zzOut, true, true⟩] : Heap)[0]? = some ⟨encOut o, true, true⟩ := rfl
  refine w_fadr ?_
  refine w_ld (c := .sc (.int .i64 o.fLast)) hH (Nat.le_of_ble_eq_true rfl) rfl ?_
  refine w_fadr ?_
  refine w_ld (c := rowsC encMsg o.fQ) hH (Nat.le_of_ble_eq_true rfl) rfl ?_
  refine pBoth_eq ?_ ?_
  · rw [PR_call (vs := [rowsC encMsg o.fQ]) rfl (vcons (Vw_ro _ _ _) vnil) (copyMsgsF n hn o.fQ hs.2.1 hs.2.2)]
    have hl := leaf_inst 2 o
    generalize hA : instT ti0 E0.tp 2 44 (rowsC encMsg o.fQ) = A at hl
    have hA' : instT ti0 E0.tp ([⟨encOut o, true, true⟩] ++ [⟨zzOut, true, true⟩] : Heap).length 44 (rowsC encMsg o.fQ) = A := hA
    rw [hA']
    have hc1 : cellsA A.1 = some [A.1] := by
      generalize A.1 = y at hl
      cases y <;> first | (simp [isLeaf] at hl; done) | (simp only [cellsA, hl, if_true]) | rfl
    refine w_fill (cs := [.sc (.int .i64 o.fLast), .nl, A.1]) (by simp only [fillA, hc1]; rfl) ?_
    have hlen : ([⟨encOut o, true, true⟩] ++ [⟨zzOut, true, true⟩] ++ A.2 : Heap).length = 2 + A.2.length := by simp; omega
    have hg : ([⟨encOut o, true, true⟩] ++ [⟨zzOut, true, true⟩] ++ A.2 ++ [⟨zzOut, true, true⟩] : Heap)[2 + A.2.length]? = some ⟨zzOut, true, true⟩ := by
      rw [← hlen]
      exact get_at _ _ []
    have hc : cellsA (.agg [.sc (.int .i64 o.fLast), .nl, A.1]) = some [.sc (.int .i64 o.fLast), .nl, A.1] := by
      show (if (true && (true && (isLeaf A.1 && true))) = true then _ else none) = _
      rw [hl]
      rfl
    rw [hlen, st_at 3 (2 + A.2.length) 0 _ ⟨zzOut, true, true⟩ [.sc (.int .i64 o.fLast), .nl, A.1] _ _ hg hc rfl (Nat.le_of_ble_eq_true rfl) rfl]
    have hI := outI_a o A hA
    refine w_fadr ?_
    refine w_ld (c := rowsC encFlight o.fFl) hI.src (Nat.le_of_ble_eq_true rfl) rfl ?_
    refine w_len ?_
    exact copyOut_loop n hn o hs (2 + A.2.length) 1 0 A.1 _ o.fFl [] (n + 3) .nl _ [] rfl (by have := hs.1.1; omega) hI
  · rw [PR_call (vs := [rowsC encMsg o.fQ]) rfl (vcons (Vw_ro _ _ _) vnil) (copyMsgsF n hn o.fQ hs.2.1 hs.2.2)]
    have hl := leaf_inst 3 o
    generalize hA : instT ti0 E0.tp 3 44 (rowsC encMsg o.fQ) = A at hl
    have hA' : instT ti0 E0.tp ([⟨encOut o, true, true⟩] ++ [⟨zzOut, true, true⟩] ++ [⟨zzOut, true, true⟩] : Heap).length 44 (rowsC encMsg o.fQ) = A := hA
    rw [hA']
    have hc1 : cellsA A.1 = some [A.1] := by
      generalize A.1 = y at hl
      cases y <;> first | (simp [isLeaf] at hl; done) | (simp only [cellsA, hl, if_true]) | rfl
    refine w_fill (cs := [.sc (.int .i64 o.fLast), .nl, A.1]) (by simp only [fillA, hc1]; rfl) ?_
    have hc : cellsA (.agg [.sc (.int .i64 o.fLast), .nl, A.1]) = some [.sc (.int .i64 o.fLast), .nl, A.1] := by
      show (if (true && (true && (isLeaf A.1 && true))) = true then _ else none) = _
      rw [hl]
      rfl
    rw [show ([⟨encOut o, true, true⟩] ++ [⟨zzOut, true, true⟩] : Heap).length = 2 from rfl]
    rw [st_at 3 2 0 _ ⟨zzOut, true, true⟩ [.sc (.int .i64 o.fLast), .nl, A.1] _ _ rfl hc rfl (Nat.le_of_ble_eq_true rfl) rfl]
    have hI := outI_b o A hA
    refine w_fadr ?_
    refine w_ld (c := rowsC encFlight o.fFl) hI.src (Nat.le_of_ble_eq_true rfl) rfl ?_
    refine w_len ?_
    exact copyOut_loop n hn o hs 2 1 0 A.1 _ o.fFl [] (n + 3) .nl _ [] rfl (by have := hs.1.1; omega) hI

end Go.Proofs.Ytfpmccedangjoaa.Abs
