/- Sessions and stripes, copied, as both sides do it. -/
import Derived.Test.YtfpmccedangjoaaVOutC
set_option linter.unusedVariables false
set_option linter.unusedSimpArgs false
set_option maxRecDepth 100000
namespace Go.Proofs.Ytfpmccedangjoaa.Abs
open Go

variable {β : Type} {n : Nat} {r : Option β}

def iv (l : List Int) : List Value := l.map fun z => .int .i64 z
theorem ints_map (l : List Int) : (l.map fun z => AV.sc (.int .i64 z)) = (iv l).map AV.sc := by rw [iv, List.map_map]; rfl
theorem app_ints (l : List Int) (hs : l.length ≤ 1048576) (H : Heap) (K : AV → Heap → Option β) : pApp 1 8 .nl (intsC l) H K = K (.sl H.length 0 l.length 1) (H ++ [⟨l.map fun z => .sc (.int .i64 z), true, true⟩]) := by
  have e1 : content H 1 (intsC l) = some (l.map fun z => .sc (.int .i64 z)) := by
    show (if (l.map fun z => AV.sc (.int .i64 z)).length = l.length * 1 then some (l.map fun z => AV.sc (.int .i64 z)) else none) = _
    rw [if_pos (by simp)]
  have e2 : content H 1 .nl = some [] := rfl
  have e3 : lenA (intsC l) = some l.length := rfl
  simp only [pApp, lenA, e1, e2, kill, Option.bind_some, e3]
  rw [if_pos (by omega), if_pos (by simp [isLeaf, leafV])]
  simp only [pNewSl, Nat.zero_add, List.nil_append]
theorem own_ints {H : Heap} {id d : Nat} {l : List Int} (h : H[id]? = some ⟨l.map fun z => .sc (.int .i64 z), true, true⟩) : ownT ti0 E0.tp H (d + 2) 47 (.sl id 0 l.length 1) = some (intsC l, [id]) := by
  rw [ownT_sl]
  have ha : isApp H id = true := by simp only [isApp, h]
  have hr : rdCells H id 0 (l.length * 1) = some (l.map fun z => .sc (.int .i64 z)) := by
    simp only [rdCells, h, if_true, Nat.zero_add, Nat.mul_one, List.length_map, Nat.le_refl, List.drop_zero]
    congr 1
    exact List.take_of_length_le (by simp)
  obtain ⟨i, j, h1, h2, h3, h4⟩ := tyIntS
  simp only [h1, h2, Option.bind_some, h3, if_true, ha, hr]
  have ho := ownL_sc (ti := ti0) (tp := E0.tp) (H := H) (d := d) (List.replicate l.length j.cty).flatten (iv l) (by simp [iv, h4])
  rw [ints_map, ho, Option.bind_some, ← ints_map]
theorem inst_ints (N : Nat) (l : List Int) : instT ti0 E0.tp N 47 (intsC l) = (.sl N 0 l.length 1, [⟨l.map fun z => .sc (.int .i64 z), true, true⟩]) := by
  obtain ⟨i, j, h1, h2, h3, h4⟩ := tyIntS
  show instT ti0 E0.tp N 47 (.ro l.length (l.map fun z => .sc (.int .i64 z))) = _
  simp only [instT, h1, Option.bind_some, h2, Option.getD_some, h3, ints_map, instL_sc]
theorem copyIntsF (n : Nat) (l : List Int) (hs : l.length ≤ 1048576) : tree E0 (n + 1) 47 47 [intsC l] = some (intsC l) := by
  rw [tree_def, f47_eq, f47]
  simp only [PR_app]
  rw [app_ints l hs, ownTree, own_ints (d := 6) (l := l) rfl]
  rfl

def smSessC (s : SessV) : Prop := smOutC s.fO ∧ s.fIn.length ≤ 1048576
/-- What a copy of a session is: its own cells, the copies. -/
theorem own_sess {H : Heap} {s : SessV} {ys : List AV} {N1 N2 m : Nat} (h1 : ownL (ownT ti0 E0.tp H 7) ctyOut ys = some (encOut s.fO, List.range' N1 m)) (hl : ys.length = 3) (h2 : H[N2]? = some ⟨s.fIn.map fun z => .sc (.int .i64 z), true, true⟩) (hd : N1 + m ≤ N2) :
    ownTree ti0 E0.tp 49 H (.agg ([.sc (.string s.fClient), .sc (.int .i64 s.fBorn), .sc (.bool s.fClean), .sc (.int .i64 s.fConn), .sc (.int .i64 s.fGen)] ++ (ys ++ [.sl N2 0 s.fIn.length 1]))) = some (.agg (encSess s)) := by
  obtain ⟨i, hi, hc⟩ := tySess
  have h3 := own_ints (d := 5) h2
  have e1 : ownL (ownT ti0 E0.tp H 7) [47] [.sl N2 0 s.fIn.length 1] = some ([intsC s.fIn], [N2]) := by
    simp only [ownL, h3, Option.bind_some, List.append_nil]
  have e2 := ownL_append h1 e1
  have e3 : ownL (ownT ti0 E0.tp H 7) [9, 3, 4, 3, 3] [.sc (.string s.fClient), .sc (.int .i64 s.fBorn), .sc (.bool s.fClean), .sc (.int .i64 s.fConn), .sc (.int .i64 s.fGen)] = some ([.sc (.string s.fClient), .sc (.int .i64 s.fBorn), .sc (.bool s.fClean), .sc (.int .i64 s.fConn), .sc (.int .i64 s.fGen)], []) := by
    simp only [ownL, ownT_sc, Option.bind_some, List.append_nil]
  have e4 := ownL_append e3 e2
  have hcy : ctySess = [9, 3, 4, 3, 3] ++ (ctyOut ++ [47]) := rfl
  rw [ownTree, ownT_agg, hi, Option.bind_some, hc, hcy, e4]
  simp only [Option.bind_some, List.nil_append]
  rw [if_pos]
  · rfl
  · rw [List.nodup_append]
    refine ⟨List.nodup_range', by simp, fun a ha b hb => ?_⟩
    rw [List.mem_range'_1] at ha
    rw [List.mem_singleton] at hb
    omega
theorem ys3 {ys : List AV} (h : ys.length = 3) : ∃ a b c, ys = [a, b, c] := by
  match ys, h with
  | [a, b, c], _ => exact ⟨a, b, c, rfl⟩

/-- impl.copySess. -/
theorem copySessF (n : Nat) (hn : 1048576 < n) (s : SessV) (hs : smSessC s) : tree E0 (n + 5) 49 31 [.agg (encSess s)] = some (.agg (encSess s)) := by
  rw [tree_def, f31_eq, f31]
  simp only [PR_box, PR_new, PR_fadr, PR_load, PR_store, pNew]
  rw [box_fl _ _ _ (flSess s)]
  simp only [List.length_nil, List.nil_append, List.length_cons, Nat.zero_add]
  have hz : ([⟨[.sc (.string ⟨#[]⟩), .sc (.int .i64 0), .sc (.bool false), .sc (.int .i64 0), .sc (.int .i64 0), .sc (.int .i64 0), .nl, .nl, .nl], true, true⟩] : Heap) = [⟨zzSess, true, true⟩] := rfl
  rw [hz]
  have hH : ([⟨encSess s, true, true⟩] ++ [⟨zzSess, true, true⟩] : Heap)[0]? = some ⟨encSess s, true, true⟩ := rfl
  refine w_fadr ?_
  refine w_ldA (ds := encOut s.fO) hH (Nat.le_of_ble_eq_true rfl) rfl ?_
  refine w_fadr ?_
  refine w_ld (c := intsC s.fIn) hH (Nat.le_of_ble_eq_true rfl) rfl ?_
  rw [PR_call (vs := [.agg (encOut s.fO)]) rfl (vcons (Vw_agg _ (flOut _)) vnil) (copyOutF n hn s.fO hs.1)]
  obtain ⟨i, hi, hc⟩ := tyOut
  rw [instT_agg, hi, Option.getD_some, hc]
  simp only
  generalize hB : instL ti0 E0.tp ([⟨encSess s, true, true⟩] ++ [⟨zzSess, true, true⟩] : Heap).length ctyOut (encOut s.fO) = B
  have hBl : B.1.length = 3 := by rw [← hB, instL_len]; rfl
  have hBf : B.1.all isLeaf = true := by rw [← hB]; exact instL_leaf _ _ _ (flOut _)
  refine w_fadr ?_
  rw [PR_call (vs := [intsC s.fIn]) rfl (vcons (Vw_ro _ _ _) vnil) (copyIntsF (n + 3) s.fIn hs.2), inst_ints]
  simp only
  have hN : ([⟨encSess s, true, true⟩] ++ [⟨zzSess, true, true⟩] ++ B.2 : Heap).length = 2 + B.2.length := by simp; omega
  rw [hN]
  obtain ⟨a, b, c, habc⟩ := ys3 hBl
  have hBc : cellsA (.agg B.1) = some [a, b, c] := by
    show (if _ then _ else none) = _
    rw [if_pos hBf, habc]
  rw [st_at 3 0 (0 + 5) (.agg B.1) ⟨encSess s, true, true⟩ [a, b, c] _ _ rfl hBc rfl (Nat.le_of_ble_eq_true rfl) rfl]
  refine w_fadr ?_
  rw [st_at 1 0 (0 + 8) (.sl (2 + B.2.length) 0 s.fIn.length 1) ⟨splice (encSess s) (0 + 5) [a, b, c], true, true⟩ [.sl (2 + B.2.length) 0 s.fIn.length 1] _ _ rfl rfl rfl (Nat.le_of_ble_eq_true rfl) rfl]
  refine w_ldA (ds := [.sc (.string s.fClient), .sc (.int .i64 s.fBorn), .sc (.bool s.fClean), .sc (.int .i64 s.fConn), .sc (.int .i64 s.fGen), a, b, c, .sl (2 + B.2.length) 0 s.fIn.length 1]) (cs := [.sc (.string s.fClient), .sc (.int .i64 s.fBorn), .sc (.bool s.fClean), .sc (.int .i64 s.fConn), .sc (.int .i64 s.fGen), a, b, c, .sl (2 + B.2.length) 0 s.fIn.length 1]) rfl (Nat.le_of_ble_eq_true rfl) rfl ?_
  have hlf : [AV.sc (.string s.fClient), .sc (.int .i64 s.fBorn), .sc (.bool s.fClean), .sc (.int .i64 s.fConn), .sc (.int .i64 s.fGen), a, b, c, .sl (2 + B.2.length) 0 s.fIn.length 1].all isLeaf = true := by
    rw [habc] at hBf
    simp only [List.all_cons, List.all_nil, Bool.and_true, Bool.and_eq_true] at hBf
    simp [isLeaf, leafV] at hBf ⊢
    exact hBf
  have hcc : cellsA (.agg [.sc (.string s.fClient), .sc (.int .i64 s.fBorn), .sc (.bool s.fClean), .sc (.int .i64 s.fConn), .sc (.int .i64 s.fGen), a, b, c, .sl (2 + B.2.length) 0 s.fIn.length 1]) = some [.sc (.string s.fClient), .sc (.int .i64 s.fBorn), .sc (.bool s.fClean), .sc (.int .i64 s.fConn), .sc (.int .i64 s.fGen), a, b, c, .sl (2 + B.2.length) 0 s.fIn.length 1] := by
    show (if _ then _ else none) = _
    rw [if_pos hlf]
  rw [st_at 9 1 0 _ ⟨zzSess, true, true⟩ _ _ _ rfl hcc rfl (by decide) rfl]
  refine w_ldA (ds := [.sc (.string s.fClient), .sc (.int .i64 s.fBorn), .sc (.bool s.fClean), .sc (.int .i64 s.fConn), .sc (.int .i64 s.fGen), a, b, c, .sl (2 + B.2.length) 0 s.fIn.length 1]) (cs := [.sc (.string s.fClient), .sc (.int .i64 s.fBorn), .sc (.bool s.fClean), .sc (.int .i64 s.fConn), .sc (.int .i64 s.fGen), a, b, c, .sl (2 + B.2.length) 0 s.fIn.length 1]) rfl (Nat.le_of_ble_eq_true rfl) rfl ?_
  have lB : ∀ (b0 b1 : Blk) (X : List Blk), ownL (ownT ti0 E0.tp (b0 :: b1 :: (B.2 ++ X)) 7) ctyOut B.1 = some (encOut s.fO, List.range' 2 B.2.length) := by
    intro b0 b1 X
    have := own_instL (H := b0 :: b1 :: (B.2 ++ X)) (fun ty t N h h' _ => own_inst 7 ty t N h h') ctyOut (encOut s.fO) 2 (okWOut 4 s.fO) (by
      rw [show instL ti0 E0.tp 2 ctyOut (encOut s.fO) = B from hB]
      exact Lies_in [b0, b1] B.2 X) (instL_live _ _ _)
    rw [show instL ti0 E0.tp 2 ctyOut (encOut s.fO) = B from hB] at this
    exact this
  have key := fun (b0 b1 : Blk) => own_sess (H := b0 :: b1 :: (B.2 ++ [⟨s.fIn.map fun z => .sc (.int .i64 z), true, true⟩])) (N2 := 2 + B.2.length) (lB b0 b1 _) hBl (by
    have := get_at (b0 :: b1 :: B.2) ⟨s.fIn.map fun z => .sc (.int .i64 z), true, true⟩ []
    rw [List.length_cons, List.length_cons, show B.2.length + 1 + 1 = 2 + B.2.length by omega] at this
    exact this) (Nat.le_refl _)
  rw [habc] at key
  have hfin := key ⟨[.sc (.string s.fClient), .sc (.int .i64 s.fBorn), .sc (.bool s.fClean), .sc (.int .i64 s.fConn), .sc (.int .i64 s.fGen), a, b, c, .sl (2 + B.2.length) 0 s.fIn.length 1], true, true⟩ ⟨[.sc (.string s.fClient), .sc (.int .i64 s.fBorn), .sc (.bool s.fClean), .sc (.int .i64 s.fConn), .sc (.int .i64 s.fGen), a, b, c, .sl (2 + B.2.length) 0 s.fIn.length 1], true, true⟩
  exact hfin
/-- spec.l15Copy. -/
theorem l15CopyF (n : Nat) (hn : 1048576 < n) (s : SessV) (hs : smSessC s) : tree E0 (n + 5) 49 26 [.agg (encSess s)] = some (.agg (encSess s)) := by
  rw [tree_def, f26_eq, f26]
  simp only [PR_box, PR_new, PR_fadr, PR_load, PR_store, PR_app, pNew]
  rw [box_fl _ _ _ (flSess s)]
  simp only [List.length_nil, List.nil_append, List.length_cons, Nat.zero_add]
  have hz : ([⟨[.sc (.string ⟨#[]⟩), .sc (.int .i64 0), .sc (.bool false), .sc (.int .i64 0), .sc (.int .i64 0), .sc (.int .i64 0), .nl, .nl, .nl], true, true⟩] : Heap) = [⟨zzSess, true, true⟩] := rfl
  rw [hz]
  have hH : ([⟨encSess s, true, true⟩] ++ [⟨zzSess, true, true⟩] : Heap)[0]? = some ⟨encSess s, true, true⟩ := rfl
  refine w_ldA (ds := encSess s) hH (Nat.le_of_ble_eq_true rfl) rfl ?_
  rw [show ([⟨encSess s, true, true⟩] ++ [⟨zzSess, true, true⟩] : Heap).length = 2 from rfl]
  rw [st_at 9 2 0 (.agg (encSess s)) ⟨zzSess, true, true⟩ (encSess s) _ _ rfl (fl_cells (flSess s)) rfl (by decide) rfl]
  have hH2 : ([⟨encSess s, true, true⟩] ++ [⟨zzSess, true, true⟩] ++ [⟨zzSess, true, true⟩] : Heap).set 2 ⟨splice zzSess 0 (encSess s), true, true⟩ = [⟨encSess s, true, true⟩, ⟨zzSess, true, true⟩, ⟨encSess s, true, true⟩] := rfl
  simp only [hH2]
  refine w_fadr ?_
  refine w_ldA (ds := encOut s.fO) (cs := encSess s) rfl (Nat.le_of_ble_eq_true rfl) rfl ?_
  rw [PR_call (vs := [.agg (encOut s.fO)]) rfl (vcons (Vw_agg _ (flOut _)) vnil) (l13CopyF n hn s.fO hs.1)]
  obtain ⟨i, hi, hc⟩ := tyOut
  rw [instT_agg, hi, Option.getD_some, hc]
  simp only
  generalize hB : instL ti0 E0.tp ([⟨encSess s, true, true⟩, ⟨zzSess, true, true⟩, ⟨encSess s, true, true⟩] : Heap).length ctyOut (encOut s.fO) = B
  have hBl : B.1.length = 3 := by rw [← hB, instL_len]; rfl
  have hBf : B.1.all isLeaf = true := by rw [← hB]; exact instL_leaf _ _ _ (flOut _)
  obtain ⟨a, b, c, habc⟩ := ys3 hBl
  have hBc : cellsA (.agg B.1) = some [a, b, c] := by
    show (if _ then _ else none) = _
    rw [if_pos hBf, habc]
  refine w_fadr ?_
  rw [st_at 3 2 (0 + 5) (.agg B.1) ⟨encSess s, true, true⟩ [a, b, c] _ _ rfl hBc rfl (Nat.le_of_ble_eq_true rfl) rfl]
  refine w_fadr ?_
  refine w_ld (c := intsC s.fIn) (cs := encSess s) rfl (Nat.le_of_ble_eq_true rfl) rfl ?_
  rw [app_ints s.fIn hs.2]
  have hset : ([⟨encSess s, true, true⟩, ⟨zzSess, true, true⟩, ⟨encSess s, true, true⟩] ++ B.2 : Heap).set 2 ⟨splice (encSess s) (0 + 5) [a, b, c], true, true⟩ = [⟨encSess s, true, true⟩, ⟨zzSess, true, true⟩, ⟨splice (encSess s) (0 + 5) [a, b, c], true, true⟩] ++ B.2 := rfl
  simp only [hset]
  have hN : ([⟨encSess s, true, true⟩, ⟨zzSess, true, true⟩, ⟨splice (encSess s) (0 + 5) [a, b, c], true, true⟩] ++ B.2 : Heap).length = 3 + B.2.length := by simp; omega
  rw [hN]
  refine w_fadr ?_
  rw [st_at 1 2 (0 + 8) (.sl (3 + B.2.length) 0 s.fIn.length 1) ⟨splice (encSess s) (0 + 5) [a, b, c], true, true⟩ [.sl (3 + B.2.length) 0 s.fIn.length 1] _ _ rfl rfl rfl (Nat.le_of_ble_eq_true rfl) rfl]
  refine w_ldA (ds := [.sc (.string s.fClient), .sc (.int .i64 s.fBorn), .sc (.bool s.fClean), .sc (.int .i64 s.fConn), .sc (.int .i64 s.fGen), a, b, c, .sl (3 + B.2.length) 0 s.fIn.length 1]) (cs := [.sc (.string s.fClient), .sc (.int .i64 s.fBorn), .sc (.bool s.fClean), .sc (.int .i64 s.fConn), .sc (.int .i64 s.fGen), a, b, c, .sl (3 + B.2.length) 0 s.fIn.length 1]) rfl (Nat.le_of_ble_eq_true rfl) rfl ?_
  have hlf : [AV.sc (.string s.fClient), .sc (.int .i64 s.fBorn), .sc (.bool s.fClean), .sc (.int .i64 s.fConn), .sc (.int .i64 s.fGen), a, b, c, .sl (3 + B.2.length) 0 s.fIn.length 1].all isLeaf = true := by
    rw [habc] at hBf
    simp only [List.all_cons, List.all_nil, Bool.and_true, Bool.and_eq_true] at hBf
    simp [isLeaf, leafV] at hBf ⊢
    exact hBf
  have hcc : cellsA (.agg [.sc (.string s.fClient), .sc (.int .i64 s.fBorn), .sc (.bool s.fClean), .sc (.int .i64 s.fConn), .sc (.int .i64 s.fGen), a, b, c, .sl (3 + B.2.length) 0 s.fIn.length 1]) = some [.sc (.string s.fClient), .sc (.int .i64 s.fBorn), .sc (.bool s.fClean), .sc (.int .i64 s.fConn), .sc (.int .i64 s.fGen), a, b, c, .sl (3 + B.2.length) 0 s.fIn.length 1] := by
    show (if _ then _ else none) = _
    rw [if_pos hlf]
  rw [st_at 9 1 0 _ ⟨zzSess, true, true⟩ _ _ _ rfl hcc rfl (by decide) rfl]
  refine w_ldA (ds := [.sc (.string s.fClient), .sc (.int .i64 s.fBorn), .sc (.bool s.fClean), .sc (.int .i64 s.fConn), .sc (.int .i64 s.fGen), a, b, c, .sl (3 + B.2.length) 0 s.fIn.length 1]) (cs := [.sc (.string s.fClient), .sc (.int .i64 s.fBorn), .sc (.bool s.fClean), .sc (.int .i64 s.fConn), .sc (.int .i64 s.fGen), a, b, c, .sl (3 + B.2.length) 0 s.fIn.length 1]) rfl (Nat.le_of_ble_eq_true rfl) rfl ?_
  have lB : ∀ (b0 b1 b2 : Blk) (X : List Blk), ownL (ownT ti0 E0.tp (b0 :: b1 :: b2 :: (B.2 ++ X)) 7) ctyOut B.1 = some (encOut s.fO, List.range' 3 B.2.length) := by
    intro b0 b1 b2 X
    have := own_instL (H := b0 :: b1 :: b2 :: (B.2 ++ X)) (fun ty t N h h' _ => own_inst 7 ty t N h h') ctyOut (encOut s.fO) 3 (okWOut 4 s.fO) (by
      rw [show instL ti0 E0.tp 3 ctyOut (encOut s.fO) = B from hB]
      exact Lies_in [b0, b1, b2] B.2 X) (instL_live _ _ _)
    rw [show instL ti0 E0.tp 3 ctyOut (encOut s.fO) = B from hB] at this
    exact this
  have key := fun (b0 b1 b2 : Blk) => own_sess (H := b0 :: b1 :: b2 :: (B.2 ++ [⟨s.fIn.map fun z => .sc (.int .i64 z), true, true⟩])) (N2 := 3 + B.2.length) (lB b0 b1 b2 _) hBl (by
    have := get_at (b0 :: b1 :: b2 :: B.2) ⟨s.fIn.map fun z => .sc (.int .i64 z), true, true⟩ []
    rw [List.length_cons, List.length_cons, List.length_cons, show B.2.length + 1 + 1 + 1 = 3 + B.2.length by omega] at this
    exact this) (Nat.le_refl _)
  rw [habc] at key
  have hfin := key ⟨encSess s, true, true⟩ ⟨[.sc (.string s.fClient), .sc (.int .i64 s.fBorn), .sc (.bool s.fClean), .sc (.int .i64 s.fConn), .sc (.int .i64 s.fGen), a, b, c, .sl (3 + B.2.length) 0 s.fIn.length 1], true, true⟩ ⟨[.sc (.string s.fClient), .sc (.int .i64 s.fBorn), .sc (.bool s.fClean), .sc (.int .i64 s.fConn), .sc (.int .i64 s.fGen), a, b, c, .sl (3 + B.2.length) 0 s.fIn.length 1], true, true⟩
  exact hfin

/-- One more is copied behind a list, beside other memory. -/
theorem agg_stepI {d w te g bytes k : Nat} {cty : List Nat} {H X0 : Heap} {x : AV} {cells cs z : List AV} {ids : List Nat} {args vs : List AV} {K : AV → Heap → Option β} (hx : OwnSI d H w cty x k cells ids) (hh : plainF g = false) (hv : args.mapM (viewV (H ++ X0) 8) = some vs) (ht : tree E0 n te g vs = some (.agg cs))
    (hte : ∃ i, ti0 te = some i ∧ i.cty = cty) (hok : okLW (okW ti0 E0.tp d) cty cs) (hfl : cs.all isFl = true) (hw : cs.length = w) (hz : z.length = w) (hb : (k + 1) * bytes ≤ 140737488355328)
    (h : ∀ x' H' ids', OwnSI d H' w cty x' (k + 1) (cells ++ cs) ids' → (∀ i ∈ ids', i ∈ ids ∨ H.length ≤ i) → (∀ i, i < H.length → i ∉ ids → H'[i]? = H[i]?) → H.length ≤ H'.length → K x' H' = r) :
    ((PR n β).call te (.fn g [] []) args (H ++ X0) fun t G => (fillA z [(0, w, t)]).bind fun ct => pNewSl 1 w ct true G fun y G => pApp w bytes x y G K) = r := by
  obtain ⟨i, hi, rfl⟩ := hte
  rw [PR_call hh hv ht, instT_agg, hi, Option.getD_some]
  simp only
  have hlen := instL_len (ti := ti0) (tp := E0.tp) (H ++ X0).length i.cty cs
  have hleaf := instL_leaf (ti := ti0) (tp := E0.tp) cs (H ++ X0).length i.cty hfl
  rw [fill_all hz (by rw [hlen, hw]) hleaf, Option.bind_some]
  have key := app_oneI (H := H) (X := X0 ++ (instL ti0 E0.tp (H ++ X0).length i.cty cs).2) (bytes := bytes) (er := (instL ti0 E0.tp (H ++ X0).length i.cty cs).1) (ec := cs) (eids := List.range' (H ++ X0).length (instL ti0 E0.tp (H ++ X0).length i.cty cs).2.length) (K := K) (r := r) hx (by rw [hlen, hw]) hleaf (by
      have := own_new (d := d) (H := H ++ X0) hok
      rwa [List.append_assoc] at this) List.nodup_range' (fun j hj => by
      rw [List.mem_range'_1] at hj
      have := hj.1
      simp at this
      omega) hb h
  rw [← List.append_assoc] at key
  exact key

/-- A stripe's copy that is being made. -/
structure StrI (H : Heap) (io i2 i1 : Nat) (s : StripeV) (x : AV) (k : Nat) (cells : List AV) (ids : List Nat) : Prop where
  ho : H[io]? = some ⟨[.sc (.int .i64 s.fHeld), x], true, true⟩
  hs : OwnSI 6 H 9 ctySess x k cells ids
  hz : ∃ z2, H[i2]? = some ⟨z2, true, true⟩ ∧ z2.length = 2
  src : H[i1]? = some ⟨encStripe s, true, true⟩
  ne : io ≠ i2
  ne1 : i1 ≠ io
  ne2 : i1 ≠ i2
  o1 : io ∉ ids
  z1 : i2 ∉ ids
  s1 : i1 ∉ ids
theorem StrI.lt {H : Heap} {io i2 i1 : Nat} {s : StripeV} {x : AV} {k : Nat} {cells : List AV} {ids : List Nat} (h : StrI H io i2 i1 s x k cells ids) : io < H.length ∧ i2 < H.length ∧ i1 < H.length := by
  obtain ⟨z2, hz, _⟩ := h.hz
  exact ⟨(List.getElem?_eq_some_iff.1 h.ho).1, (List.getElem?_eq_some_iff.1 hz).1, (List.getElem?_eq_some_iff.1 h.src).1⟩
theorem StrI.put {H H' : Heap} {io i2 i1 : Nat} {s : StripeV} {x x' : AV} {k : Nat} {cells ec : List AV} {ids ids' : List Nat} {K : Heap → Option β} (h : StrI H io i2 i1 s x k cells ids)
    (h1 : OwnSI 6 H' 9 ctySess x' (k + 1) (cells ++ ec) ids') (h2 : ∀ i ∈ ids', i ∈ ids ∨ H.length ≤ i) (h3 : ∀ i, i < H.length → i ∉ ids → H'[i]? = H[i]?) (hk : ∀ H'', StrI H'' io i2 i1 s x' (k + 1) (cells ++ ec) ids' → K H'' = r) :
    pStore 1 (.ptr io (0 + 1)) x' H' K = r := by
  obtain ⟨l1, l2, l3⟩ := h.lt
  have hlf : cellsA x' = some [x'] := by
    rcases h1 with ⟨_, h0, _⟩ | ⟨id, raw, is, _, rfl, _⟩
    · omega
    · rfl
  have ho : H'[io]? = some ⟨[.sc (.int .i64 s.fHeld), x], true, true⟩ := by rw [h3 io l1 h.o1]; exact h.ho
  have hio : io < H'.length := (List.getElem?_eq_some_iff.1 ho).1
  rw [st_at 1 io (0 + 1) x' _ [x'] H' K ho hlf rfl (Nat.le_of_ble_eq_true rfl) rfl]
  have hni : ∀ j, j < H.length → j ∉ ids → j ∉ ids' := fun j hj hn hm => by
    rcases h2 j hm with h' | h'
    · exact hn h'
    · omega
  have hio' := hni io l1 h.o1
  refine hk _ ⟨?_, ?_, ?_, ?_, h.ne, h.ne1, h.ne2, hio', hni i2 l2 h.z1, hni i1 l3 h.s1⟩
  · rw [List.getElem?_set_self hio]
    rfl
  · refine h1.frame fun i hi => ?_
    rw [List.getElem?_set_ne (fun (e : io = i) => hio' (e ▸ hi))]
  · obtain ⟨z2, hz, hl⟩ := h.hz
    exact ⟨z2, by rw [List.getElem?_set_ne h.ne, h3 i2 l2 h.z1]; exact hz, hl⟩
  · rw [List.getElem?_set_ne (fun e => h.ne1 e.symm), h3 i1 l3 h.s1]
    exact h.src
theorem StrI.fin {H : Heap} {io i2 i1 : Nat} {s : StripeV} {x : AV} {ids : List Nat} (h : StrI H io i2 i1 s x s.fL.length (s.fL.map encSess).flatten ids) :
    (pLoad true 2 (.ptr io 0) H fun t => pStore 2 (.ptr i2 0) t H fun H => pLoad true 2 (.ptr i2 0) H fun r0 => ownTree ti0 E0.tp 28 H r0) = some (.agg (encStripe s)) := by
  obtain ⟨l1, l2, l3⟩ := h.lt
  obtain ⟨z2, hz, hzl⟩ := h.hz
  have hx : isLeaf x = true := by
    rcases h.hs with ⟨rfl, _⟩ | ⟨id, raw, is, _, rfl, _⟩ <;> rfl
  refine w_ldA (ds := [.sc (.int .i64 s.fHeld), x]) h.ho (Nat.le_of_ble_eq_true rfl) rfl ?_
  have hc : cellsA (.agg [.sc (.int .i64 s.fHeld), x]) = some [.sc (.int .i64 s.fHeld), x] := by
    show (if (true && (isLeaf x && true)) = true then _ else none) = _
    rw [hx]
    rfl
  rw [st_at 2 i2 0 _ ⟨z2, true, true⟩ [.sc (.int .i64 s.fHeld), x] H _ hz hc rfl (by show 0 + 2 ≤ z2.length; omega) rfl]
  have hs : splice z2 0 [.sc (.int .i64 s.fHeld), x] = [.sc (.int .i64 s.fHeld), x] := by
    unfold splice
    rw [List.take_zero, List.nil_append, List.drop_of_length_le (by rw [hzl]; exact Nat.le_refl _), List.append_nil]
  simp only [hs]
  refine w_ldA (ds := [.sc (.int .i64 s.fHeld), x]) (cs := [.sc (.int .i64 s.fHeld), x]) (by rw [List.getElem?_set_self l2]) (Nat.le_of_ble_eq_true rfl) rfl ?_
  have e1 := (h.hs.frame (H' := H.set i2 ⟨[.sc (.int .i64 s.fHeld), x], true, true⟩) fun i hi => by rw [List.getElem?_set_ne (fun (e : i2 = i) => h.z1 (e ▸ hi))]).res tySessS
  obtain ⟨i, hi, hcy⟩ := tyStripe
  rw [ownTree, ownT_agg, hi, Option.bind_some, hcy]
  simp only [ctyStripe, ownL, ownT_sc, e1, Option.bind_some, List.nil_append, List.append_nil]
  rw [if_pos h.hs.nodup]
  rfl
def smStripeC (s : StripeV) : Prop := s.fL.length ≤ 1048576 ∧ ∀ x ∈ s.fL, smSessC x
/-- spec.l16Copy's loop. -/
theorem l16_loop (n : Nat) (hn : 1048576 < n) (s : StripeV) (hs : smStripeC s) (io i2 i1 : Nat) : ∀ (t pre : List SessV) (m : Nat) (x : AV) (H : Heap) (ids : List Nat), s.fL = pre ++ t → t.length < m → StrI H io i2 i1 s x pre.length (pre.map encSess).flatten ids →
    f18_l0 (PR (n + 5) AV) (n + 5) (fun x H => ownTree ti0 E0.tp 28 H x) m (.ptr i1 0) (.ptr i2 0) (.ptr io 0) (.sc (.int .i64 pre.length)) H = some (.agg (encStripe s))
  | [], pre, m + 1, x, H, ids, he, hm, hi => by
    rw [List.append_nil] at he
    show (PR (n + 5) AV).fadr _ _ _ = _
    simp only [PR_fadr, PR_load, PR_len, PR_bin, PR_cond, PR_store]
    refine w_fadr ?_
    refine w_ld (c := rowsC encSess s.fL) hi.src (Nat.le_of_ble_eq_true rfl) rfl ?_
    refine w_len ?_
    rw [lss_nat, cond_b, if_neg (by rw [he]; simp)]
    subst he
    exact hi.fin
  | y :: t, pre, m + 1, x, H, ids, he, hm, hi => by
    have hlt : pre.length < s.fL.length := by rw [he]; simp
    have hy := hs.2 y (by rw [he]; simp)
    have hlen := hs.1
    show (PR (n + 5) AV).fadr _ _ _ = _
    simp only [PR_fadr, PR_load, PR_len, PR_bin, PR_cond, PR_store, PR_iadr, PR_fill, PR_newSl, PR_app]
    refine w_fadr ?_
    refine w_ld (c := rowsC encSess s.fL) hi.src (Nat.le_of_ble_eq_true rfl) rfl ?_
    refine w_len ?_
    rw [lss_nat, cond_b, if_pos (by simpa using hlt)]
    refine w_fadr ?_
    refine w_ld (c := x) hi.ho (Nat.le_of_ble_eq_true rfl) rfl ?_
    refine w_fadr ?_
    refine w_ld (c := rowsC encSess s.fL) hi.src (Nat.le_of_ble_eq_true rfl) rfl ?_
    refine w_el lenSess (by decide) he ?_
    refine w_ldA_rp (ds := encSess y) (Nat.le_of_ble_eq_true rfl) rfl ?_
    have hst := fun K h => agg_stepI (β := AV) (n := n + 5) (X0 := []) (z := zzSess) (bytes := 128) (K := K) (r := some (.agg (encStripe s))) hi.hs rfl (vcons (Vw_agg _ (flSess y)) vnil) (l15CopyF n hn y hy) tySess (okWSess 3 y) (flSess y) (lenSess y) rfl (by omega) h
    simp only [List.append_nil] at hst
    refine hst _ fun x' H' ids' h1 h2 h3 h4 => ?_
    refine w_fadr ?_
    refine hi.put h1 h2 h3 fun H'' hi' => ?_
    rw [inc_nat _ _ (by omega)]
    have ih := l16_loop n hn s hs io i2 i1 t (pre ++ [y]) m x' H'' ids' (by rw [he]; simp) (by simpa using hm) (by
      rw [List.length_append, List.length_singleton, List.map_append, List.flatten_append]
      simpa using hi')
    rw [List.length_append, List.length_singleton] at ih
    exact ih
/-- impl.copyStripe's loop. -/
theorem copyStripe_loop (n : Nat) (hn : 1048576 < n) (s : StripeV) (hs : smStripeC s) (io i2 i1 : Nat) : ∀ (t pre : List SessV) (m : Nat) (x : AV) (H : Heap) (ids : List Nat), s.fL = pre ++ t → t.length < m → StrI H io i2 i1 s x pre.length (pre.map encSess).flatten ids →
    f21_l0 (PR (n + 5) AV) (n + 5) (fun x H => ownTree ti0 E0.tp 28 H x) m (.ptr i2 0) (.ptr io 0) (rowsC encSess s.fL) (.sc (.int .i64 s.fL.length)) (.sc (.int .i64 pre.length)) H = some (.agg (encStripe s))
  | [], pre, m + 1, x, H, ids, he, hm, hi => by
    rw [List.append_nil] at he
    show (PR (n + 5) AV).bin _ _ _ _ = _
    simp only [PR_fadr, PR_load, PR_len, PR_bin, PR_cond, PR_store]
    rw [lss_nat, cond_b, if_neg (by rw [he]; simp)]
    subst he
    exact hi.fin
  | y :: t, pre, m + 1, x, H, ids, he, hm, hi => by
    have hlt : pre.length < s.fL.length := by rw [he]; simp
    have hy := hs.2 y (by rw [he]; simp)
    have hlen := hs.1
    show (PR (n + 5) AV).bin _ _ _ _ = _
    simp only [PR_fadr, PR_load, PR_len, PR_bin, PR_cond, PR_store, PR_iadr, PR_fill, PR_newSl, PR_app, PR_new]
    rw [lss_nat, cond_b, if_pos (by simpa using hlt)]
    refine w_el lenSess (by decide) he ?_
    refine w_ldA_rp (ds := encSess y) (Nat.le_of_ble_eq_true rfl) rfl ?_
    refine lw_put rfl (lenSess _) (fl_leaf (flSess _)) fun i5 h5 => ?_
    refine w_fadr ?_
    refine w_ld (c := x) (blk_grow hi.ho _) (Nat.le_of_ble_eq_true rfl) rfl ?_
    refine lw_ld h5 (lenSess _) ?_
    refine agg_stepI (β := AV) (n := n + 5) (X0 := [⟨encSess y, true, true⟩]) (z := zzSess) (bytes := 128) (r := some (.agg (encStripe s))) hi.hs rfl (vcons (Vw_agg _ (flSess y)) vnil) (copySessF n hn y hy) tySess (okWSess 3 y) (flSess y) (lenSess y) rfl (by omega) fun x' H' ids' h1 h2 h3 h4 => ?_
    refine w_fadr ?_
    refine hi.put h1 h2 h3 fun H'' hi' => ?_
    rw [inc_nat _ _ (by omega)]
    have ih := copyStripe_loop n hn s hs io i2 i1 t (pre ++ [y]) m x' H'' ids' (by rw [he]; simp) (by simpa using hm) (by
      rw [List.length_append, List.length_singleton, List.map_append, List.flatten_append]
      simpa using hi')
    rw [List.length_append, List.length_singleton] at ih
    exact ih
theorem strI0 (s : StripeV) : StrI [⟨encStripe s, true, true⟩, ⟨zzStripe, true, true⟩, ⟨[.sc (.int .i64 s.fHeld), .nl], true, true⟩] 2 1 0 s .nl 0 [] [] :=
  ⟨rfl, OwnSI.nil _ _ _ _, ⟨zzStripe, rfl, rfl⟩, rfl, by decide, by decide, by decide, by simp, by simp, by simp⟩
theorem l16CopyF (n : Nat) (hn : 1048576 < n) (s : StripeV) (hs : smStripeC s) : tree E0 (n + 6) 28 18 [.agg (encStripe s)] = some (.agg (encStripe s)) := by
  rw [tree_def, f18_eq, f18]
  simp only [PR_box, PR_new, PR_fadr, PR_load, PR_fill, PR_store, pNew]
  rw [box_fl _ _ _ (flStripe s)]
  simp only [List.length_nil, List.nil_append, List.length_cons, Nat.zero_add]
  have hH : ([⟨encStripe s, true, true⟩] ++ [⟨[.sc (.int .i64 0), .nl], true, true⟩] : Heap)[0]? = some ⟨encStripe s, true, true⟩ := rfl
  refine w_fadr ?_
  refine w_ld (c := .sc (.int .i64 s.fHeld)) hH (Nat.le_of_ble_eq_true rfl) rfl ?_
  refine w_fill (cs := [.sc (.int .i64 s.fHeld), .nl]) rfl ?_
  rw [show ([⟨encStripe s, true, true⟩] ++ [⟨[.sc (.int .i64 0), .nl], true, true⟩] : Heap).length = 2 from rfl]
  rw [st_at 2 2 0 _ ⟨zzStripe, true, true⟩ [.sc (.int .i64 s.fHeld), .nl] _ _ rfl rfl rfl (by decide) rfl]
  exact l16_loop n hn s hs 2 1 0 s.fL [] (n + 5) .nl _ [] rfl (by have := hs.1; omega) (strI0 s)
theorem copyStripeF (n : Nat) (hn : 1048576 < n) (s : StripeV) (hs : smStripeC s) : tree E0 (n + 6) 28 21 [.agg (encStripe s)] = some (.agg (encStripe s)) := by
  rw [tree_def, f21_eq, f21]
  simp only [PR_box, PR_new, PR_fadr, PR_load, PR_fill, PR_store, PR_len, pNew]
  rw [box_fl _ _ _ (flStripe s)]
  simp only [List.length_nil, List.nil_append, List.length_cons, Nat.zero_add]
  have hH : ([⟨encStripe s, true, true⟩] ++ [⟨[.sc (.int .i64 0), .nl], true, true⟩] : Heap)[0]? = some ⟨encStripe s, true, true⟩ := rfl
  refine w_fadr ?_
  refine w_ld (c := .sc (.int .i64 s.fHeld)) hH (Nat.le_of_ble_eq_true rfl) rfl ?_
  refine w_fill (cs := [.sc (.int .i64 s.fHeld), .nl]) rfl ?_
  rw [show ([⟨encStripe s, true, true⟩] ++ [⟨[.sc (.int .i64 0), .nl], true, true⟩] : Heap).length = 2 from rfl]
  rw [st_at 2 2 0 _ ⟨zzStripe, true, true⟩ [.sc (.int .i64 s.fHeld), .nl] _ _ rfl rfl rfl (by decide) rfl]
  refine w_fadr ?_
  refine w_ld (c := rowsC encSess s.fL) (strI0 s).src (Nat.le_of_ble_eq_true rfl) rfl ?_
  refine w_len ?_
  exact copyStripe_loop n hn s hs 2 1 0 s.fL [] (n + 5) .nl _ [] rfl (by have := hs.1; omega) (strI0 s)

end Go.Proofs.Ytfpmccedangjoaa.Abs
