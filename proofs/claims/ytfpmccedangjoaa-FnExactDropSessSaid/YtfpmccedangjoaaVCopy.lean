/- Lists of texts that are copied, as both sides do it. -/
import Derived.Test.YtfpmccedangjoaaTypes
import Derived.Test.YtfpmccedangjoaaWalk
import Derived.Test.YtfpmccedangjoaaOwn
set_option linter.unusedVariables false
set_option linter.unusedSimpArgs false
set_option maxRecDepth 100000
namespace Go.Proofs.Ytfpmccedangjoaa.Abs
open Go

variable {β : Type} {n : Nat} {r : Option β}

theorem app_bytes (s : ByteArray) (hs : s.size ≤ 140737488355328) (H : Heap) (K : AV → Heap → Option β) : pApp 1 1 .nl (bytesC s) H K = K (.sl H.length 0 s.size 1) (H ++ [⟨bytesAV s, true, true⟩]) := by
  have e1 : content H 1 (bytesC s) = some (bytesAV s) := by
    show (if (bytesAV s).length = s.size * 1 then some (bytesAV s) else none) = _
    rw [if_pos (by rw [bytesAV_len]; omega)]
  have e2 : content H 1 .nl = some [] := rfl
  have e3 : lenA (bytesC s) = some s.size := rfl
  simp only [pApp, lenA, e1, e2, kill, Option.bind_some, e3]
  rw [if_pos (by omega), if_pos (bytesAV_leaf s)]
  simp only [pNewSl, Nat.zero_add, List.nil_append]
theorem own_bytes {H : Heap} {id d : Nat} {s : ByteArray} (h : H[id]? = some ⟨bytesAV s, true, true⟩) : ownT ti0 E0.tp H (d + 2) 73 (.sl id 0 s.size 1) = some (bytesC s, [id]) := by
  rw [ownT_sl]
  have ha : isApp H id = true := by simp only [isApp, h]
  have hr : rdCells H id 0 (s.size * 1) = some (bytesAV s) := by
    have hl := bytesAV_len s
    simp only [rdCells, h, if_true, Nat.zero_add, Nat.mul_one, hl, Nat.le_refl, List.drop_zero]
    rw [← hl, List.take_length]
  obtain ⟨i, j, h1, h2, h3, h4⟩ := tyByteS
  simp only [h1, h2, Option.bind_some, h3, if_true, ha, hr]
  have ho := ownL_sc (ti := ti0) (tp := E0.tp) (H := H) (d := d) (List.replicate s.size j.cty).flatten (bv s) (by rw [bv_len]; simp [h4])
  rw [bytesAV_eq, ho, Option.bind_some, ← bytesAV_eq]
/-- joined, of one part. -/
theorem joined1F (n : Nat) (hn : 1 < n) (s : ByteArray) (hs : s.size ≤ 1048576) : tree E0 (n + 1) 73 66 [.ro 1 [bytesC s]] = some (bytesC s) := by
  rw [tree_def, f66_eq, f66]
  simp only [PR_len]
  refine w_len ?_
  obtain ⟨m, rfl⟩ : ∃ m, n = m + 2 := ⟨n - 2, by omega⟩
  rw [f66_l0]
  simp only [PR_bin, PR_cond, PR_iadr, PR_load, PR_app]
  refine w_bin (v := .sc (.bool true)) (fun k => rfl) ?_
  refine w_cT rfl ?_
  have e1 : ∀ K : AV → Option AV, pIadr 1 (.ro 1 [bytesC s]) (.sc (.int .i64 0)) K = K (.rp [bytesC s]) := fun K => iadr_ro 1 1 [bytesC s] 0 K (by decide) (by simp)
  rw [e1, ld1_rp, app_bytes s (by omega)]
  refine w_bin (v := .sc (.int .i64 1)) (fun k => rfl) ?_
  rw [f66_l0]
  simp only [PR_bin, PR_cond]
  refine w_bin (v := .sc (.bool false)) (fun k => rfl) ?_
  refine w_cF rfl ?_
  rw [ownTree, own_bytes (d := 6) (s := s) rfl]
  rfl
/-- A copy of one: its own cells, then what was there. -/
theorem own_msg {H : Heap} {id d : Nat} {m : MsgV} (h : H[id]? = some ⟨bytesAV m.fBody, true, true⟩) : ownL (ownT ti0 E0.tp H (d + 2)) ctyMsg [.sc (.string m.fTopic), .sl id 0 m.fBody.size 1, .sc (.int .i64 m.fQos), .sc (.bool m.fRetain)] = some (encMsg m, [id]) := by
  have hb := own_bytes (d := d) h
  simp only [ctyMsg, ownL, ownT_sc, hb, Option.bind_some, List.nil_append, List.append_nil]
  rfl
theorem own_aggMsg {H : Heap} {id : Nat} {m : MsgV} (h : H[id]? = some ⟨bytesAV m.fBody, true, true⟩) : ownTree ti0 E0.tp 75 H (.agg [.sc (.string m.fTopic), .sl id 0 m.fBody.size 1, .sc (.int .i64 m.fQos), .sc (.bool m.fRetain)]) = some (.agg (encMsg m)) := by
  obtain ⟨i, hi, hc⟩ := tyMsg
  rw [ownTree, ownT_agg, hi, Option.bind_some, hc, own_msg (d := 5) h]
  rfl
/-- spec.l12Msg. -/
theorem l12MsgF (n : Nat) (m : MsgV) (hs : m.fBody.size ≤ 1048576) : tree E0 (n + 1) 75 53 [.agg (encMsg m)] = some (.agg (encMsg m)) := by
  rw [tree_def, f53_eq, f53]
  simp only [PR_box, PR_new, PR_fadr, PR_load, PR_app, PR_fill, PR_store, pNew]
  rw [box_fl _ _ _ (flMsg m)]
  simp only [List.length_nil, List.nil_append, List.length_cons, Nat.zero_add]
  have hH : ([⟨encMsg m, true, true⟩] ++ [⟨zzMsg, true, true⟩] : Heap)[0]? = some ⟨encMsg m, true, true⟩ := rfl
  refine w_fadr ?_
  refine w_ld (c := .sc (.string m.fTopic)) hH (Nat.le_of_ble_eq_true rfl) rfl ?_
  refine w_fadr ?_
  refine w_ld (c := bytesC m.fBody) hH (Nat.le_of_ble_eq_true rfl) rfl ?_
  refine w_fadr ?_
  refine w_ld (c := .sc (.int .i64 m.fQos)) hH (Nat.le_of_ble_eq_true rfl) rfl ?_
  refine w_fadr ?_
  refine w_ld (c := .sc (.bool m.fRetain)) hH (Nat.le_of_ble_eq_true rfl) rfl ?_
  rw [app_bytes _ (by omega)]
  refine w_fill (cs := [.sc (.string m.fTopic), .sl 2 0 m.fBody.size 1, .sc (.int .i64 m.fQos), .sc (.bool m.fRetain)]) rfl ?_
  rw [st_at 4 1 0 _ ⟨zzMsg, true, true⟩ [.sc (.string m.fTopic), .sl 2 0 m.fBody.size 1, .sc (.int .i64 m.fQos), .sc (.bool m.fRetain)] _ _ rfl rfl rfl (by decide) rfl]
  refine w_ldA (ds := [.sc (.string m.fTopic), .sl 2 0 m.fBody.size 1, .sc (.int .i64 m.fQos), .sc (.bool m.fRetain)]) (cs := [.sc (.string m.fTopic), .sl 2 0 m.fBody.size 1, .sc (.int .i64 m.fQos), .sc (.bool m.fRetain)]) rfl (Nat.le_refl _) rfl ?_
  exact own_aggMsg rfl
/-- impl.copyMsg. -/
theorem copyMsgF (n : Nat) (hn : 1 < n) (m : MsgV) (hs : m.fBody.size ≤ 1048576) : tree E0 (n + 2) 75 59 [.agg (encMsg m)] = some (.agg (encMsg m)) := by
  rw [tree_def, f59_eq, f59]
  simp only [PR_box, PR_new, PR_fadr, PR_load, PR_app, PR_fill, PR_store, PR_newSl, pNew]
  rw [box_fl _ _ _ (flMsg m)]
  simp only [List.length_nil, List.nil_append, List.length_cons, Nat.zero_add]
  have hH : ([⟨encMsg m, true, true⟩] ++ [⟨zzMsg, true, true⟩] : Heap)[0]? = some ⟨encMsg m, true, true⟩ := rfl
  refine w_fadr ?_
  refine w_ld (c := bytesC m.fBody) hH (Nat.le_of_ble_eq_true rfl) rfl ?_
  refine w_fill (cs := [bytesC m.fBody]) rfl ?_
  simp only [pNewSl]
  rw [PR_call (vs := [.ro 1 [bytesC m.fBody]]) rfl rfl (joined1F n hn m.fBody hs)]
  obtain ⟨i, j, h1, h2, h3, h4⟩ := tyByteS
  have hi : ∀ N, instT ti0 E0.tp N 73 (bytesC m.fBody) = (.sl N 0 m.fBody.size 1, [⟨bytesAV m.fBody, true, true⟩]) := by
    intro N
    show instT ti0 E0.tp N 73 (.ro m.fBody.size (bytesAV m.fBody)) = _
    simp only [instT, h1, Option.bind_some, h2, Option.getD_some, h3, bytesAV_eq, instL_sc]
  rw [hi]
  simp only
  refine w_fadr ?_
  rw [st_at 1 0 (0 + 1) _ ⟨encMsg m, true, true⟩ [.sl 3 0 m.fBody.size 1] _ _ rfl rfl rfl (Nat.le_of_ble_eq_true rfl) rfl]
  refine w_ldA (ds := [.sc (.string m.fTopic), .sl 3 0 m.fBody.size 1, .sc (.int .i64 m.fQos), .sc (.bool m.fRetain)]) (cs := [.sc (.string m.fTopic), .sl 3 0 m.fBody.size 1, .sc (.int .i64 m.fQos), .sc (.bool m.fRetain)]) rfl (Nat.le_refl _) rfl ?_
  rw [st_at 4 1 0 _ ⟨zzMsg, true, true⟩ [.sc (.string m.fTopic), .sl 3 0 m.fBody.size 1, .sc (.int .i64 m.fQos), .sc (.bool m.fRetain)] _ _ rfl rfl rfl (by decide) rfl]
  refine w_ldA (ds := [.sc (.string m.fTopic), .sl 3 0 m.fBody.size 1, .sc (.int .i64 m.fQos), .sc (.bool m.fRetain)]) (cs := [.sc (.string m.fTopic), .sl 3 0 m.fBody.size 1, .sc (.int .i64 m.fQos), .sc (.bool m.fRetain)]) rfl (Nat.le_refl _) rfl ?_
  exact own_aggMsg rfl

/-- One more is copied behind a list. -/
theorem copy_step {d w te g bytes k : Nat} {cty : List Nat} {H X0 : Heap} {x : AV} {cells cs z : List AV} {args vs : List AV} {K : AV → Heap → Option β} (hx : OwnS d H w cty x k cells) (hh : plainF g = false) (hv : args.mapM (viewV (H ++ X0) 8) = some vs) (ht : tree E0 n te g vs = some (.agg cs))
    (hte : ∃ i, ti0 te = some i ∧ i.cty = cty) (hok : okLW (okW ti0 E0.tp d) cty cs) (hfl : cs.all isFl = true) (hw : cs.length = w) (hz : z.length = w) (hb : (k + 1) * bytes ≤ 140737488355328) (h : ∀ x' H', OwnS d H' w cty x' (k + 1) (cells ++ cs) → K x' H' = r) :
    ((PR n β).call te (.fn g [] []) args (H ++ X0) fun t G => (fillA z [(0, w, t)]).bind fun ct => pNewSl 1 w ct true G fun y G => pApp w bytes x y G K) = r := by
  obtain ⟨i, hi, rfl⟩ := hte
  rw [PR_call hh hv ht, instT_agg, hi, Option.getD_some]
  simp only
  have hlen := instL_len (ti := ti0) (tp := E0.tp) (H ++ X0).length i.cty cs
  have hleaf := instL_leaf (ti := ti0) (tp := E0.tp) cs (H ++ X0).length i.cty hfl
  have hf : fillA z [(0, w, .agg (instL ti0 E0.tp (H ++ X0).length i.cty cs).1)] = some (instL ti0 E0.tp (H ++ X0).length i.cty cs).1 := by
    have hc : cellsA (.agg (instL ti0 E0.tp (H ++ X0).length i.cty cs).1) = some (instL ti0 E0.tp (H ++ X0).length i.cty cs).1 := by
      show (if _ then _ else none) = _
      rw [if_pos hleaf]
    have hs : splice z 0 (instL ti0 E0.tp (H ++ X0).length i.cty cs).1 = (instL ti0 E0.tp (H ++ X0).length i.cty cs).1 := by
      unfold splice
      rw [List.take_zero, List.nil_append, List.drop_of_length_le (by rw [hlen, hw, hz]; omega), List.append_nil]
    show ((cellsA (.agg _)).bind fun cs => if cs.length = w then (if 0 + w ≤ z.length then fillA (splice z 0 cs) [] else none) else none) = _
    rw [hc, Option.bind_some, if_pos (by rw [hlen, hw]), if_pos (by omega), hs]
    rfl
  rw [hf, Option.bind_some]
  have key := app_one (H := H) (X := X0 ++ (instL ti0 E0.tp (H ++ X0).length i.cty cs).2) (bytes := bytes) (er := (instL ti0 E0.tp (H ++ X0).length i.cty cs).1) (ec := cs) (eids := List.range' (H ++ X0).length (instL ti0 E0.tp (H ++ X0).length i.cty cs).2.length) (K := K) (r := r) hx (by rw [hlen, hw]) hleaf (by
      have := own_new (d := d) (H := H ++ X0) hok
      rwa [List.append_assoc] at this) List.nodup_range' (fun j hj => by
      rw [List.mem_range'_1] at hj
      have := hj.1
      simp at this
      omega) hb h
  rw [← List.append_assoc] at key
  exact key

theorem mk_take (l : List MsgV) (hs : ∀ x ∈ l, x.fBody.size ≤ 1048576) : True := trivial
/-- spec.l12Copy's loop. -/
theorem l12_loop (n : Nat) (hn : 1048576 < n) (l : List MsgV) (hl : l.length ≤ 1048576) (hs : ∀ x ∈ l, x.fBody.size ≤ 1048576) : ∀ (t pre : List MsgV) (m : Nat) (x : AV) (H : Heap), l = pre ++ t → t.length < m → OwnS 7 H 4 ctyMsg x pre.length (pre.map encMsg).flatten →
    f52_l0 (PR (n + 2) AV) (n + 2) (fun x H => ownTree ti0 E0.tp 44 H x) m (rowsC encMsg l) x (.sc (.int .i64 pre.length)) H = some (rowsC encMsg l)
  | [], pre, m + 1, x, H, he, hm, hx => by
    rw [List.append_nil] at he
    subst he
    rw [f52_l0]
    simp only [PR_len, PR_bin, PR_cond]
    rw [len_ro, lss_nat, cond_b, if_neg (by simp)]
    obtain ⟨ids, ho, hno⟩ := own_res (d := 7) (tyS := 44) tyMsgS hx
    rw [ownTree, ho, Option.bind_some, if_pos hno]
  | y :: t, pre, m + 1, x, H, he, hm, hx => by
    have hlt : pre.length < l.length := by rw [he]; simp
    have hy : y ∈ l := by rw [he]; simp
    rw [f52_l0]
    simp only [PR_len, PR_bin, PR_cond, PR_iadr, PR_load, PR_fill, PR_newSl, PR_app]
    rw [len_ro, lss_nat, cond_b, if_pos (by simpa using hlt)]
    have hel := fun k => el_ro (β := AV) lenMsg (by decide) pre y t k
    rw [← he] at hel
    rw [hel, ld_rp 4 _ _ _ _ (lenMsg y)]
    have hst := fun K h => copy_step (β := AV) (n := n + 2) (X0 := []) (bytes := 56) (z := zzMsg) (K := K) (r := some (rowsC encMsg l)) hx rfl (vcons (Vw_agg _ (flMsg y)) vnil) (l12MsgF (n + 1) y (hs y hy)) tyMsg (okWMsg 5 y) (flMsg y) (lenMsg y) rfl (by omega) h
    simp only [List.append_nil] at hst
    refine hst _ fun x' H' hx' => ?_
    rw [inc_nat _ _ (by omega)]
    have ih := l12_loop n hn l hl hs t (pre ++ [y]) m x' H' (by rw [he]; simp) (by simpa using hm) (by
      rw [List.length_append, List.length_singleton, List.map_append, List.flatten_append]
      simpa using hx')
    rw [List.length_append, List.length_singleton] at ih
    exact ih
theorem l12CopyF (n : Nat) (hn : 1048576 < n) (l : List MsgV) (hl : l.length ≤ 1048576) (hs : ∀ x ∈ l, x.fBody.size ≤ 1048576) : tree E0 (n + 3) 44 52 [rowsC encMsg l] = some (rowsC encMsg l) := by
  rw [tree_def, f52_eq, f52]
  exact l12_loop n hn l hl hs l [] (n + 2) .nl [] rfl (by omega) (OwnS.nil _ _ _ _)
/-- impl.copyMsgs's loop. -/
theorem copyMsgs_loop (n : Nat) (hn : 1048576 < n) (l : List MsgV) (hl : l.length ≤ 1048576) (hs : ∀ x ∈ l, x.fBody.size ≤ 1048576) : ∀ (t pre : List MsgV) (m : Nat) (x : AV) (H : Heap), l = pre ++ t → t.length < m → OwnS 7 H 4 ctyMsg x pre.length (pre.map encMsg).flatten →
    f58_l0 (PR (n + 2) AV) (n + 2) (fun x H => ownTree ti0 E0.tp 44 H x) m x (rowsC encMsg l) (.sc (.int .i64 l.length)) (.sc (.int .i64 pre.length)) H = some (rowsC encMsg l)
  | [], pre, m + 1, x, H, he, hm, hx => by
    rw [List.append_nil] at he
    subst he
    rw [f58_l0]
    simp only [PR_len, PR_bin, PR_cond]
    rw [lss_nat, cond_b, if_neg (by simp)]
    obtain ⟨ids, ho, hno⟩ := own_res (d := 7) (tyS := 44) tyMsgS hx
    rw [ownTree, ho, Option.bind_some, if_pos hno]
  | y :: t, pre, m + 1, x, H, he, hm, hx => by
    have hlt : pre.length < l.length := by rw [he]; simp
    have hy : y ∈ l := by rw [he]; simp
    rw [f58_l0]
    simp only [PR_len, PR_bin, PR_cond, PR_iadr, PR_load, PR_fill, PR_newSl, PR_app, PR_new, PR_store]
    rw [lss_nat, cond_b, if_pos (by simpa using hlt)]
    have hel := fun k => el_ro (β := AV) lenMsg (by decide) pre y t k
    rw [← he] at hel
    rw [hel, ld_rp 4 _ _ _ _ (lenMsg y)]
    refine lw_put rfl (lenMsg _) (fl_leaf (flMsg _)) fun i hi => ?_
    refine lw_ld hi (lenMsg _) ?_
    refine copy_step (β := AV) (n := n + 2) (X0 := [⟨encMsg y, true, true⟩]) (bytes := 56) (z := zzMsg) (r := some (rowsC encMsg l)) hx rfl (vcons (Vw_agg _ (flMsg y)) vnil) (copyMsgF n (by omega) y (hs y hy)) tyMsg (okWMsg 5 y) (flMsg y) (lenMsg y) rfl (by omega) fun x' H' hx' => ?_
    rw [inc_nat _ _ (by omega)]
    have ih := copyMsgs_loop n hn l hl hs t (pre ++ [y]) m x' H' (by rw [he]; simp) (by simpa using hm) (by
      rw [List.length_append, List.length_singleton, List.map_append, List.flatten_append]
      simpa using hx')
    rw [List.length_append, List.length_singleton] at ih
    exact ih
theorem copyMsgsF (n : Nat) (hn : 1048576 < n) (l : List MsgV) (hl : l.length ≤ 1048576) (hs : ∀ x ∈ l, x.fBody.size ≤ 1048576) : tree E0 (n + 3) 44 58 [rowsC encMsg l] = some (rowsC encMsg l) := by
  rw [tree_def, f58_eq, f58]
  simp only [PR_len]
  refine w_len ?_
  exact copyMsgs_loop n hn l hl hs l [] (n + 2) .nl [] rfl (by omega) (OwnS.nil _ _ _ _)

end Go.Proofs.Ytfpmccedangjoaa.Abs
