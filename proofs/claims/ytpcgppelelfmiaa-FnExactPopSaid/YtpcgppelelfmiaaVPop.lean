/- Pop, as both sides have it. -/
import Derived.Test.YtpcgppelelfmiaaVCopy
import Derived.Test.YtpcgppelelfmiaaMk
set_option linter.unusedVariables false
set_option linter.unusedSimpArgs false
set_option maxRecDepth 100000
namespace Go.Proofs.Ytpcgppelelfmiaa.Abs
open Go

def msg0 : MsgV := ⟨⟨#[]⟩, ⟨#[]⟩, 0, false⟩
def vPop1 (l : List MsgV) : MsgV := l.headD msg0
def vPop2 (l : List MsgV) : Bool := !l.isEmpty

theorem tup_own {ty : Nat} {H : Heap} {ts : List Nat} {raw cells : List AV} {ids : List Nat} (hts : E0.tp ty = some ts) (h : ownL (ownT ti0 E0.tp H 7) ts raw = some (cells, ids)) (hn : ids.Nodup) : ownTree ti0 E0.tp ty H (.tup raw) = some (.tup cells) := by
  rw [ownTree, ownT_tup, hts, Option.bind_some, h, Option.bind_some, Option.bind_some, if_pos hn]
theorem own3 {H : Heap} {t0 t1 t2 : Nat} {x0 x1 : AV} {v : Value} {a b : AV × List Nat} (h0 : ownT ti0 E0.tp H 7 t0 x0 = some a) (h1 : ownT ti0 E0.tp H 7 t1 x1 = some b) : ownL (ownT ti0 E0.tp H 7) [t0, t1, t2] [x0, x1, .sc v] = some ([a.1, b.1, .sc v], a.2 ++ b.2) := by
  simp only [ownL, h0, h1, ownT_sc, Option.bind_some, List.append_nil]
/-- The texts' own ends: no text. -/
theorem own_zz (H : Heap) : ownT ti0 E0.tp H 7 27 (.agg zzMsg) = some (.agg (encMsg msg0), []) := by
  obtain ⟨i, hi, hc⟩ := tyMsg
  rw [ownT_agg, hi, Option.bind_some, hc]
  rfl
theorem own_aggL {H : Heap} {raw cells : List AV} {ids : List Nat} (h : ownL (ownT ti0 E0.tp H 6) ctyMsg raw = some (cells, ids)) : ownT ti0 E0.tp H 7 27 (.agg raw) = some (.agg cells, ids) := by
  obtain ⟨i, hi, hc⟩ := tyMsg
  rw [ownT_agg, hi, Option.bind_some, hc, h]
  rfl

theorem specF_Pop (n : Nat) (hn : 1048576 < n) (x0 : List MsgV) (k0 : x0.length ≤ 9223372036854775807 ∧ ∀ z ∈ x0, okMsg z) (b0 : wtL wtMsg x0 ≤ 1048576) : tree E0 (n + 4) 28 5 [rowsC encMsg x0] = some (.tup [rowsC encMsg x0.tail, .agg (encMsg (vPop1 x0)), .sc (.bool (vPop2 x0))]) := by
  have hlen : x0.length ≤ 1048576 := by have := wtL_eq wtMsg x0; omega
  have hs : ∀ x ∈ x0, x.fBody.size ≤ 1048576 := by
    intro x hx
    have h1 := wtL_eq wtMsg x0
    have h2 := wtS_mem (wt := wtMsg) hx
    have h3 : wtMsg x = x.fTopic.size + (x.fBody.size + 0) := rfl
    omega
  rw [tree_def, f5_eq, f5]
  simp only [PR_new, PR_len, PR_bin, PR_cond, PR_fill, PR_store, PR_load, PR_slice, PR_iadr, pNew, List.length_nil, List.nil_append]
  have hz : ([⟨[.sc (.string ⟨#[]⟩), .nl, .sc (.int .i64 0), .sc (.bool false)], true, true⟩] : Heap) = [⟨zzMsg, true, true⟩] := rfl
  rw [hz]
  refine w_len ?_
  cases x0 with
  | nil =>
    refine w_bin (v := .sc (.bool true)) (fun k => rfl) ?_
    refine w_cT rfl ?_
    refine w_fill (cs := zzMsg) rfl ?_
    rw [st_at 4 0 0 _ ⟨zzMsg, true, true⟩ zzMsg _ _ rfl rfl rfl (by decide) rfl]
    refine w_ldA (ds := zzMsg) (cs := zzMsg) rfl (Nat.le_refl _) rfl ?_
    exact tup_own rfl (own3 (a := (.ro 0 [], [])) rfl (own_zz _)) List.nodup_nil
  | cons m l =>
    have hm : m.fBody.size ≤ 1048576 := hs m List.mem_cons_self
    refine w_bin (v := .sc (.bool false)) (fun k => ?_) ?_
    · show k (.sc (.bool (((m :: l).length : Int) == 0))) = _
      have e : (((m :: l).length : Int) == 0) = false := by
        rw [beq_eq_false_iff_ne]
        intro h
        have : (m :: l).length = l.length + 1 := rfl
        omega
      rw [e]
    refine w_cF rfl ?_
    have hsl := slice_rows lenMsg (m :: l) 1 (by simp) (β := AV)
    have hsl' : ∀ k : AV → Option AV, pSlice 4 (rowsC encMsg (m :: l)) (some (.sc (.int .i64 1))) none k = k (rowsC encMsg l) := fun k => hsl k
    rw [hsl']
    have hel := fun k => el_ro (β := AV) lenMsg (by decide) [] m l k
    simp only [List.nil_append, List.length_nil, Int.natCast_zero] at hel
    rw [hel, ld_rp 4 _ _ _ _ (lenMsg m)]
    rw [PR_call (vs := [rowsC encMsg l]) rfl (vcons (Vw_ro _ _ _) vnil) (l12CopyF n hn l (by simp at hlen; omega) fun x hx => hs x (List.mem_cons_of_mem _ hx))]
    rw [PR_call (vs := [.agg (encMsg m)]) rfl (vcons (Vw_agg _ (flMsg m)) vnil) (l12MsgF (n + 2) m hm)]
    obtain ⟨i, hi, hc⟩ := tyMsg
    rw [instT_agg, hi, Option.getD_some, hc]
    simp only
    generalize hA : instT ti0 E0.tp ([⟨zzMsg, true, true⟩] : Heap).length 24 (rowsC encMsg l) = A
    generalize hB : instL ti0 E0.tp ([⟨zzMsg, true, true⟩] ++ A.2 : Heap).length ctyMsg (encMsg m) = B
    have hBl : B.1.length = 4 := by rw [← hB, instL_len]; rfl
    have hBc : cellsA (.agg B.1) = some B.1 := by
      show (if _ then _ else none) = _
      rw [if_pos (by rw [← hB]; exact instL_leaf _ _ _ (flMsg m))]
    have hsp : splice zzMsg 0 B.1 = B.1 := by
      unfold splice
      rw [List.take_zero, List.nil_append, List.drop_of_length_le (by rw [hBl]; decide), List.append_nil]
    rw [st_at 4 0 0 _ ⟨zzMsg, true, true⟩ B.1 _ _ rfl hBc hBl (by decide) rfl]
    simp only [hsp]
    have hH : ([⟨zzMsg, true, true⟩] ++ A.2 ++ B.2 : Heap).set 0 ⟨B.1, true, true⟩ = ⟨B.1, true, true⟩ :: (A.2 ++ B.2) := by simp
    rw [hH]
    refine w_ldA (ds := B.1) (cs := B.1) rfl (by omega) (by rw [List.drop_zero, ← hBl, List.take_length]) ?_
    have hA1 : A = instT ti0 E0.tp 1 24 (rowsC encMsg l) := hA.symm
    have hNB : ([⟨zzMsg, true, true⟩] ++ A.2 : Heap).length = 1 + A.2.length := by simp; omega
    rw [hNB] at hB
    have o1 : ownT ti0 E0.tp (⟨B.1, true, true⟩ :: (A.2 ++ B.2)) 7 24 A.1 = some (rowsC encMsg l, List.range' 1 A.2.length) := by
      rw [hA1]
      refine own_inst 7 _ _ 1 (okW_rows (d := 6) lenMsg tyMsgS (okWMsg 4) l) ?_
      have := Lies_in [⟨B.1, true, true⟩] (instT ti0 E0.tp 1 24 (rowsC encMsg l)).2 B.2
      exact this
    have o2 : ownL (ownT ti0 E0.tp (⟨B.1, true, true⟩ :: (A.2 ++ B.2)) 6) ctyMsg B.1 = some (encMsg m, List.range' (1 + A.2.length) B.2.length) := by
      rw [← hB]
      refine own_instL (fun ty t N h h' _ => own_inst 6 ty t N h h') ctyMsg (encMsg m) (1 + A.2.length) (okWMsg 4 m) ?_ (instL_live _ _ _)
      have := Lies_end (⟨B.1, true, true⟩ :: A.2) B.2
      rw [List.length_cons, Nat.add_comm] at this
      rw [hB]
      exact this
    refine tup_own rfl (own3 o1 (own_aggL o2)) ?_
    have := List.range'_append (s := 1) (m := A.2.length) (n := B.2.length) (step := 1)
    rw [Nat.one_mul] at this
    rw [this]
    exact List.nodup_range'
theorem implF_Pop (n : Nat) (hn : 1048576 < n) (x0 : List MsgV) (k0 : x0.length ≤ 9223372036854775807 ∧ ∀ z ∈ x0, okMsg z) (b0 : wtL wtMsg x0 ≤ 1048576) : tree E0 (n + 4) 28 7 [rowsC encMsg x0] = some (.tup [rowsC encMsg x0.tail, .agg (encMsg (vPop1 x0)), .sc (.bool (vPop2 x0))]) := by
  have hlen : x0.length ≤ 1048576 := by have := wtL_eq wtMsg x0; omega
  have hs : ∀ x ∈ x0, x.fBody.size ≤ 1048576 := by
    intro x hx
    have h1 := wtL_eq wtMsg x0
    have h2 := wtS_mem (wt := wtMsg) hx
    have h3 : wtMsg x = x.fTopic.size + (x.fBody.size + 0) := rfl
    omega
  rw [tree_def, f7_eq, f7]
  simp only [PR_new, PR_len, PR_bin, PR_cond, PR_fill, PR_store, PR_load, PR_slice, PR_iadr, pNew, List.length_nil, List.nil_append]
  rw [PR_call (vs := [rowsC encMsg x0]) rfl (vcons (Vw_ro _ _ _) vnil) (copyMsgsF n hn x0 hlen hs)]
  obtain ⟨i, j, h1, h2, h3, h4⟩ := tyMsgS
  have hi : instT ti0 E0.tp ([⟨zzMsg, true, true⟩] : Heap).length 24 (rowsC encMsg x0) = (.sl 1 0 x0.length 4, ⟨(instL ti0 E0.tp 2 (List.replicate x0.length ctyMsg).flatten (x0.map encMsg).flatten).1, true, true⟩ :: (instL ti0 E0.tp 2 (List.replicate x0.length ctyMsg).flatten (x0.map encMsg).flatten).2) := by
    show instT ti0 E0.tp 1 24 (.ro x0.length (x0.map encMsg).flatten) = _
    simp only [instT, h1, Option.bind_some, h2, Option.getD_some, h3, h4]
  have hz : ([⟨[.sc (.string ⟨#[]⟩), .nl, .sc (.int .i64 0), .sc (.bool false)], true, true⟩] : Heap) = [⟨zzMsg, true, true⟩] := rfl
  rw [hz, hi]
  simp only
  refine w_len ?_
  cases x0 with
  | nil =>
    refine w_bin (v := .sc (.bool true)) (fun k => rfl) ?_
    refine w_cT rfl ?_
    refine w_fill (cs := zzMsg) rfl ?_
    rw [st_at 4 0 0 _ ⟨zzMsg, true, true⟩ zzMsg _ _ rfl rfl rfl (by decide) rfl]
    refine w_ldA (ds := zzMsg) (cs := zzMsg) rfl (Nat.le_refl _) rfl ?_
    have o1 : ownT ti0 E0.tp (([⟨zzMsg, true, true⟩] ++ [⟨[], true, true⟩] : Heap).set 0 ⟨splice zzMsg 0 zzMsg, true, true⟩) 7 24 (.sl 1 0 0 4) = some (.ro 0 [], [1]) := by
      rw [ownT_sl]
      simp only [h1, h2, Option.bind_some, h3, if_true, h4]
      rfl
    exact tup_own rfl (own3 o1 (own_zz _)) (by simp)
  | cons m l =>
    refine w_bin (v := .sc (.bool false)) (fun k => ?_) ?_
    · show k (.sc (.bool (((m :: l).length : Int) == 0))) = _
      have e : (((m :: l).length : Int) == 0) = false := by
        rw [beq_eq_false_iff_ne]
        intro h
        have : (m :: l).length = l.length + 1 := rfl
        omega
      rw [e]
    refine w_cF rfl ?_
    have hsl : ∀ (id : Nat) (k : AV → Option AV), pSlice 4 (.sl id 0 (m :: l).length 4) (some (.sc (.int .i64 1))) none k = k (.sl id 4 l.length 4) := by
      intro id k
      simp only [pSlice, lenA, bound, asI, Option.bind_some, if_true]
      rw [if_pos (by simp; omega)]
      congr 2
      simp
    rw [hsl]
    rw [show ∀ k : AV → Option AV, pIadr 4 (.sl 1 0 (m :: l).length 4) (.sc (.int .i64 0)) k = k (.ptr 1 0) from fun k => iadr_sl 4 (m :: l).length 1 0 0 k (by simp)]
    have hap := instL_append (ti := ti0) (tp := E0.tp) ctyMsg (encMsg m) (List.replicate l.length ctyMsg).flatten (l.map encMsg).flatten 2 rfl
    rw [show (List.replicate (m :: l).length ctyMsg).flatten = ctyMsg ++ (List.replicate l.length ctyMsg).flatten by simp [List.replicate_succ], show ((m :: l).map encMsg).flatten = encMsg m ++ (l.map encMsg).flatten by simp, hap]
    simp only
    generalize hP : instL ti0 E0.tp 2 ctyMsg (encMsg m) = P
    generalize hQ : instL ti0 E0.tp (2 + P.2.length) (List.replicate l.length ctyMsg).flatten (l.map encMsg).flatten = Q
    have hPl : P.1.length = 4 := by rw [← hP, instL_len]; rfl
    have hQl : Q.1.length = l.length * 4 := by rw [← hQ, instL_len, rows_len lenMsg]
    have hPc : cellsA (.agg P.1) = some P.1 := by
      show (if _ then _ else none) = _
      rw [if_pos (by rw [← hP]; exact instL_leaf _ _ _ (flMsg m))]
    refine w_ldA (ds := P.1) (cs := P.1 ++ Q.1) rfl (by rw [List.length_append]; omega) (by rw [List.drop_zero, ← hPl, List.take_left' rfl]) ?_
    have hsp : splice zzMsg 0 P.1 = P.1 := by
      unfold splice
      rw [List.take_zero, List.nil_append, List.drop_of_length_le (by rw [hPl]; decide), List.append_nil]
    rw [st_at 4 0 0 _ ⟨zzMsg, true, true⟩ P.1 _ _ rfl hPc hPl (by decide) rfl]
    simp only [hsp]
    have hH : ([⟨zzMsg, true, true⟩] ++ ⟨P.1 ++ Q.1, true, true⟩ :: (P.2 ++ Q.2) : Heap).set 0 ⟨P.1, true, true⟩ = ⟨P.1, true, true⟩ :: ⟨P.1 ++ Q.1, true, true⟩ :: (P.2 ++ Q.2) := by simp
    rw [hH]
    refine w_ldA (ds := P.1) (cs := P.1) rfl (by omega) (by rw [List.drop_zero, ← hPl, List.take_length]) ?_
    have lP : Lies (⟨P.1, true, true⟩ :: ⟨P.1 ++ Q.1, true, true⟩ :: (P.2 ++ Q.2)) 2 P.2 := Lies_in [⟨P.1, true, true⟩, ⟨P.1 ++ Q.1, true, true⟩] P.2 Q.2
    have lQ : Lies (⟨P.1, true, true⟩ :: ⟨P.1 ++ Q.1, true, true⟩ :: (P.2 ++ Q.2)) (2 + P.2.length) Q.2 := by
      have := Lies_end (⟨P.1, true, true⟩ :: ⟨P.1 ++ Q.1, true, true⟩ :: P.2) Q.2
      rw [List.length_cons, List.length_cons, show P.2.length + 1 + 1 = 2 + P.2.length by omega] at this
      exact this
    have o2 : ownL (ownT ti0 E0.tp (⟨P.1, true, true⟩ :: ⟨P.1 ++ Q.1, true, true⟩ :: (P.2 ++ Q.2)) 6) ctyMsg P.1 = some (encMsg m, List.range' 2 P.2.length) := by
      have := own_instL (H := ⟨P.1, true, true⟩ :: ⟨P.1 ++ Q.1, true, true⟩ :: (P.2 ++ Q.2)) (fun ty t N h h' _ => own_inst 6 ty t N h h') ctyMsg (encMsg m) 2 (okWMsg 4 m) (by rw [hP]; exact lP) (instL_live _ _ _)
      rw [hP] at this
      exact this
    have o1' : ownL (ownT ti0 E0.tp (⟨P.1, true, true⟩ :: ⟨P.1 ++ Q.1, true, true⟩ :: (P.2 ++ Q.2)) 6) (List.replicate l.length ctyMsg).flatten Q.1 = some ((l.map encMsg).flatten, List.range' (2 + P.2.length) Q.2.length) := by
      have := own_instL (H := ⟨P.1, true, true⟩ :: ⟨P.1 ++ Q.1, true, true⟩ :: (P.2 ++ Q.2)) (fun ty t N h h' _ => own_inst 6 ty t N h h') (List.replicate l.length ctyMsg).flatten (l.map encMsg).flatten (2 + P.2.length) (okLW_rows l fun x _ => okWMsg 4 x) (by rw [hQ]; exact lQ) (instL_live _ _ _)
      rw [hQ] at this
      exact this
    have o1 : ownT ti0 E0.tp (⟨P.1, true, true⟩ :: ⟨P.1 ++ Q.1, true, true⟩ :: (P.2 ++ Q.2)) 7 24 (.sl 1 4 l.length 4) = some (rowsC encMsg l, 1 :: List.range' (2 + P.2.length) Q.2.length) := by
      rw [ownT_sl]
      have ha : isApp (⟨P.1, true, true⟩ :: ⟨P.1 ++ Q.1, true, true⟩ :: (P.2 ++ Q.2)) 1 = true := rfl
      have hr : rdCells (⟨P.1, true, true⟩ :: ⟨P.1 ++ Q.1, true, true⟩ :: (P.2 ++ Q.2)) 1 4 (l.length * 4) = some Q.1 := by
        have hg : (⟨P.1, true, true⟩ :: ⟨P.1 ++ Q.1, true, true⟩ :: (P.2 ++ Q.2) : Heap)[1]? = some ⟨P.1 ++ Q.1, true, true⟩ := rfl
        simp only [rdCells, hg, if_true]
        rw [if_pos (by rw [List.length_append]; omega), ← hPl, List.drop_append_of_le_length (Nat.le_refl _), List.drop_length, List.nil_append, hPl, ← hQl, List.take_length]
      simp only [h1, h2, Option.bind_some, h3, if_true, ha, hr, h4, o1']
    refine tup_own rfl (own3 o1 (own_aggL o2)) ?_
    rw [List.cons_append, List.nodup_cons, List.nodup_append]
    refine ⟨?_, List.nodup_range', List.nodup_range', ?_⟩
    · rw [List.mem_append, List.mem_range'_1, List.mem_range'_1]
      omega
    · intro a ha b hb
      rw [List.mem_range'_1] at ha hb
      omega
theorem resF_Pop_0 (x0 : List MsgV) (b0 : wtL wtMsg x0 ≤ 1048576) : wtL wtMsg x0.tail ≤ 1048576 ∧ (x0.tail.length ≤ 1048576 ∧ ∀ y ∈ x0.tail, smMsg y) := by
  have h : wtL wtMsg x0.tail ≤ 1048576 := by
    cases x0 with
    | nil => exact b0
    | cons m l =>
      have : wtL wtMsg (m :: l) = 1 + wtMsg m + wtL wtMsg l := rfl
      show wtL wtMsg l ≤ _
      omega
  exact ⟨h, smwS smMsg smwMsg _ h⟩
theorem resF_Pop_1 (x0 : List MsgV) (b0 : wtL wtMsg x0 ≤ 1048576) : wtMsg (vPop1 x0) ≤ 1048576 ∧ smMsg (vPop1 x0) := by
  have h : wtMsg (vPop1 x0) ≤ 1048576 := by
    cases x0 with
    | nil => decide
    | cons m l =>
      have : wtL wtMsg (m :: l) = 1 + wtMsg m + wtL wtMsg l := rfl
      show wtMsg m ≤ _
      omega
  exact ⟨h, smwMsg _ h⟩

end Go.Proofs.Ytpcgppelelfmiaa.Abs
