/- What is said of SessOk (written by stmts.py). -/
import Derived.Test.YtpcgppelelfmiaaDoorTypes
import Derived.Test.YtpcgppelelfmiaaDoorWalk
import Derived.Test.YtpcgppelelfmiaaDoorVO
set_option linter.unusedVariables false
set_option linter.unusedSimpArgs false
set_option maxRecDepth 100000
namespace Go.Proofs.YtpcgppelelfmiaaDoor.Abs
open Go
theorem lenI (x : Int) : (encI x).length = 1 := rfl
theorem w_iadrL {α β : Type} {r : Option β} {w : Nat} {enc : α → List AV} {l pre t : List α} {d : α} {K : AV → Option β} (hw : ∀ x, (enc x).length = w) (h0 : 0 < w) (hp : decide ((pre.length : Int) > 0) = true) (hl : l = pre ++ t) (hlen : l.length ≤ 1048576) (h : K (.rp (enc (pre.getLastD d) ++ (t.map enc).flatten)) = r) : pIadr w (rowsC enc l) (.sc (.int .i64 (IntKind.i64.wrap ((pre.length : Int) - 1)))) (fun t => K t) = r := by
  refine w_iadrP hw h0 hp hl hlen fun y hy => ?_
  rw [show pre.getLastD d = y from by rw [List.getLastD_eq_getLast?, hy]; rfl] at h
  exact h
def goIn (l : List Int) : List Int → List Int → Bool
  | pre, [] => decide ((l.length : Int) ≤ 4)
  | pre, x :: r => (vIn x 1 65535 && !(decide ((pre.length : Int) > 0) && decide ((pre.getLastD 0) ≥ x))) && goIn l (pre ++ [x]) r
theorem specIn_loop (n : Nat) (hn : 1048576 < n) (ty : Nat) (l : List Int) (hlen : l.length ≤ 1048576) : ∀ (r pre : List Int) (m : Nat) (H : Heap), l = pre ++ r → r.length < m → f70_l0 (PR (n + 3) AV) (n + 3) (fun x H => ownTree ti0 E0.tp ty H x) m (rowsC encI l) (.sc (.int .i64 pre.length)) H = some (.sc (.bool (goIn l pre r)))
  | [], pre, m + 1, H, hl, hm => by
    have hlt : decide ((pre.length : Int) < (l.length : Int)) = false := by
      rw [hl]
      simp
    show (PR (n + 3) AV).len _ _ = _
    simp only [PR_box, PR_new, PR_fadr, PR_load, PR_store, PR_bin, PR_binB, PR_binA, PR_un, PR_cond, PR_guard, PR_pick, PR_len, PR_lenS, PR_iadr, PR_idx, PR_slice, PR_sliceS, PR_newSl, PR_fill, PR_make, PR_app, PR_cvI, PR_cvBS]
    refine w_len ?_
    refine w_bin (v := .sc (.bool (decide ((pre.length : Int) < (l.length : Int))))) (fun k => rfl) ?_
    refine w_cF hlt ?_
    refine w_len ?_
    refine w_bin (v := .sc (.bool (decide ((l.length : Int) ≤ 4)))) (fun k => rfl) ?_
    exact w_endB (by (try clear ih); (try clear hlt); (try clear hix); (try clear hm); (try clear hmem); (try clear hpl); (try clear hsl); (try clear hlen); (try clear hqn); (try clear hqs); (try clear hs); (try clear B); (try clear B1); (try clear B2); (try clear hl); subst_vars; rw [goIn]; first | done | (cases h1 : vIn x 1 65535 <;> cases h2 : decide ((pre.length : Int) > 0) <;> cases h3 : decide ((pre.getLastD 0) ≥ x) <;> simp [h1, h2, h3] at * <;> first | omega | (simp_all; done) | (simp_all; omega)))
  | x :: r, pre, m + 1, H, hl, hm => by
    have hpl : pre.length < l.length := by rw [hl]; simp
    have hlt : decide ((pre.length : Int) < (l.length : Int)) = true := by simpa using hpl
    have hmem : x ∈ l := by rw [hl]; simp
    have hix : IntKind.i64.wrap ((pre.length : Int) + 1) = (((pre ++ [x]).length : Nat) : Int) := by
      rw [wrap64 _ (by omega) (by omega), List.length_append, List.length_singleton]
      rfl
    show (PR (n + 3) AV).len _ _ = _
    simp only [PR_box, PR_new, PR_fadr, PR_load, PR_store, PR_bin, PR_binB, PR_binA, PR_un, PR_cond, PR_guard, PR_pick, PR_len, PR_lenS, PR_iadr, PR_idx, PR_slice, PR_sliceS, PR_newSl, PR_fill, PR_make, PR_app, PR_cvI, PR_cvBS]
    refine w_len ?_
    refine w_bin (v := .sc (.bool (decide ((pre.length : Int) < (l.length : Int))))) (fun k => rfl) ?_
    refine w_cT hlt ?_
    refine w_iadrE lenI (by decide) hl ?_
    refine w_ld_rp (c := .sc (.int .i64 x)) rfl ?_
    refine lw_sc rfl (vcons (Vw_sc _ _) (vcons (Vw_sc _ _) (vcons (Vw_sc _ _) vnil))) (l1InF (n + 2) _ x 1 65535) ?_
    refine w_not ?_
    apply w_merge ((!(vIn x 1 65535)) || ((decide ((pre.length : Int) > 0)) && (decide ((pre.getLastD 0) ≥ x))))
    · intro b1 q1
      refine w_split ((vIn x 1 65535)) (fun h1 => ?_) (fun h1 => ?_)
      · refine w_hT (nF h1) ?_
        refine w_hT (nF h1) ?_
        refine w_bin (v := .sc (.bool (decide ((pre.length : Int) > 0)))) (fun k => rfl) ?_
        refine w_hT (nF h1) ?_
        apply w_merge ((decide ((pre.length : Int) > 0)) && (decide ((pre.getLastD 0) ≥ x)))
        · intro b2 q2
          refine w_split ((decide ((pre.length : Int) > 0))) (fun h2 => ?_) (fun h2 => ?_)
          · refine w_gT h2 ?_
            refine w_gT h2 ?_
            refine w_gT h2 ?_
            refine w_bin (v := .sc (.int .i64 (IntKind.i64.wrap ((pre.length : Int) - 1)))) (fun k => rfl) ?_
            refine w_gT h2 ?_
            refine w_iadrL (d := 0) lenI (by decide) h2 hl hlen ?_
            refine w_gT h2 ?_
            refine w_ld_rp (c := .sc (.int .i64 (pre.getLastD 0))) rfl ?_
            refine w_gT h2 ?_
            refine w_gT h2 ?_
            refine w_gT h2 ?_
            refine w_iadrE lenI (by decide) hl ?_
            refine w_gT h2 ?_
            refine w_ld_rp (c := .sc (.int .i64 x)) rfl ?_
            refine w_gT h2 ?_
            refine w_bin (v := .sc (.bool (decide ((pre.getLastD 0) ≥ x)))) (fun k => rfl) ?_
            refine w_hT (nF h1) ?_
            refine w_pTb h2 (mAT q2 h2) ?_
            exact rfl
          · refine w_gF h2 ?_
            refine w_gF h2 ?_
            refine w_gF h2 ?_
            refine w_gF h2 ?_
            refine w_gF h2 ?_
            refine w_gF h2 ?_
            refine w_gF h2 ?_
            refine w_gF h2 ?_
            refine w_gF h2 ?_
            refine w_gF h2 ?_
            refine w_hT (nF h1) ?_
            refine w_pFb h2 (mAF q2 h2) ?_
            exact rfl
        intro b2 q2
        refine w_pFb (nF h1) (by subst q2; exact mOF q1 (nF h1)) ?_
        exact rfl
      · refine w_hF (nT h1) ?_
        refine w_hF (nT h1) ?_
        refine w_hF (nT h1) ?_
        refine w_u ?_
        refine w_u ?_
        refine w_u ?_
        refine w_u ?_
        refine w_u ?_
        refine w_u ?_
        refine w_u ?_
        refine w_u ?_
        refine w_u ?_
        refine w_u ?_
        refine w_hF (nT h1) ?_
        refine w_pTb (nT h1) (mOT q1 (nT h1)) ?_
        exact rfl
    intro b1 q1
    refine w_split (b1) (fun h3 => ?_) (fun h3 => ?_)
    · refine w_cT h3 ?_
      exact w_endB (by (try clear ih); (try clear hlt); (try clear hix); (try clear hm); (try clear hmem); (try clear hpl); (try clear hsl); (try clear hlen); (try clear hqn); (try clear hqs); (try clear hs); (try clear B); (try clear B1); (try clear B2); (try clear hl); subst_vars; rw [goIn]; first | done | (cases h1 : vIn x 1 65535 <;> cases h2 : decide ((pre.length : Int) > 0) <;> cases h3 : decide ((pre.getLastD 0) ≥ x) <;> simp [h1, h2, h3] at * <;> first | omega | (simp_all; done) | (simp_all; omega)))
    · refine w_cF h3 ?_
      refine w_bin (v := .sc (.int .i64 (IntKind.i64.wrap ((pre.length : Int) + 1)))) (fun k => rfl) ?_
      rw [hix]
      refine (specIn_loop n hn ty l hlen r (pre ++ [x]) m _  (by rw [hl]; simp) (by simpa using hm)).trans (congrArg (fun b => some (AV.sc (Value.bool b))) ?_)
      (try clear ih); (try clear hlt); (try clear hix); (try clear hm); (try clear hmem); (try clear hpl); (try clear hsl); (try clear hlen); (try clear hqn); (try clear hqs); (try clear hs); (try clear B); (try clear B1); (try clear B2); (try clear hl); subst_vars; rw [goIn]; first | done | (cases h1 : vIn x 1 65535 <;> cases h2 : decide ((pre.length : Int) > 0) <;> cases h3 : decide ((pre.getLastD 0) ≥ x) <;> simp [h1, h2, h3] at * <;> first | omega | (simp_all; done) | (simp_all; omega))
theorem implIn_loop (n : Nat) (hn : 1048576 < n) (ty : Nat) (l : List Int) (hlen : l.length ≤ 1048576) : ∀ (r pre : List Int) (m : Nat) (H : Heap), l = pre ++ r → r.length < m → f74_l0 (PR (n + 3) AV) (n + 3) (fun x H => ownTree ti0 E0.tp ty H x) m (rowsC encI l) (rowsC encI l) (.sc (.int .i64 (l.length : Int))) (.sc (.int .i64 pre.length)) H = some (.sc (.bool (goIn l pre r)))
  | [], pre, m + 1, H, hl, hm => by
    have hlt : decide ((pre.length : Int) < (l.length : Int)) = false := by
      rw [hl]
      simp
    show (PR (n + 3) AV).bin _ _ _ _ = _
    simp only [PR_box, PR_new, PR_fadr, PR_load, PR_store, PR_bin, PR_binB, PR_binA, PR_un, PR_cond, PR_guard, PR_pick, PR_len, PR_lenS, PR_iadr, PR_idx, PR_slice, PR_sliceS, PR_newSl, PR_fill, PR_make, PR_app, PR_cvI, PR_cvBS]
    refine w_bin (v := .sc (.bool (decide ((pre.length : Int) < (l.length : Int))))) (fun k => rfl) ?_
    refine w_cF hlt ?_
    refine w_len ?_
    refine w_bin (v := .sc (.bool (decide ((l.length : Int) ≤ 4)))) (fun k => rfl) ?_
    exact w_endB (by (try clear ih); (try clear hlt); (try clear hix); (try clear hm); (try clear hmem); (try clear hpl); (try clear hsl); (try clear hlen); (try clear hqn); (try clear hqs); (try clear hs); (try clear B); (try clear B1); (try clear B2); (try clear hl); subst_vars; rw [goIn]; first | done | (cases h1 : vIn x 1 65535 <;> cases h2 : decide ((pre.length : Int) > 0) <;> cases h3 : decide ((pre.getLastD 0) ≥ x) <;> simp [h1, h2, h3] at * <;> first | omega | (simp_all; done) | (simp_all; omega)))
  | x :: r, pre, m + 1, H, hl, hm => by
    have hpl : pre.length < l.length := by rw [hl]; simp
    have hlt : decide ((pre.length : Int) < (l.length : Int)) = true := by simpa using hpl
    have hmem : x ∈ l := by rw [hl]; simp
    have hix : IntKind.i64.wrap ((pre.length : Int) + 1) = (((pre ++ [x]).length : Nat) : Int) := by
      rw [wrap64 _ (by omega) (by omega), List.length_append, List.length_singleton]
      rfl
    show (PR (n + 3) AV).bin _ _ _ _ = _
    simp only [PR_box, PR_new, PR_fadr, PR_load, PR_store, PR_bin, PR_binB, PR_binA, PR_un, PR_cond, PR_guard, PR_pick, PR_len, PR_lenS, PR_iadr, PR_idx, PR_slice, PR_sliceS, PR_newSl, PR_fill, PR_make, PR_app, PR_cvI, PR_cvBS]
    refine w_bin (v := .sc (.bool (decide ((pre.length : Int) < (l.length : Int))))) (fun k => rfl) ?_
    refine w_cT hlt ?_
    refine w_iadrE lenI (by decide) hl ?_
    refine w_ld_rp (c := .sc (.int .i64 x)) rfl ?_
    refine lw_sc rfl (vcons (Vw_sc _ _) vnil) (isIdF (n + 1) _ x) ?_
    refine w_not ?_
    apply w_merge ((!(vIn x 1 65535)) || ((decide ((pre.length : Int) > 0)) && (decide ((pre.getLastD 0) ≥ x))))
    · intro b1 q1
      refine w_split ((vIn x 1 65535)) (fun h1 => ?_) (fun h1 => ?_)
      · refine w_hT (nF h1) ?_
        refine w_hT (nF h1) ?_
        refine w_bin (v := .sc (.bool (decide ((pre.length : Int) > 0)))) (fun k => rfl) ?_
        refine w_hT (nF h1) ?_
        apply w_merge ((decide ((pre.length : Int) > 0)) && (decide ((pre.getLastD 0) ≥ x)))
        · intro b2 q2
          refine w_split ((decide ((pre.length : Int) > 0))) (fun h2 => ?_) (fun h2 => ?_)
          · refine w_gT h2 ?_
            refine w_gT h2 ?_
            refine w_gT h2 ?_
            refine w_bin (v := .sc (.int .i64 (IntKind.i64.wrap ((pre.length : Int) - 1)))) (fun k => rfl) ?_
            refine w_gT h2 ?_
            refine w_iadrL (d := 0) lenI (by decide) h2 hl hlen ?_
            refine w_gT h2 ?_
            refine w_ld_rp (c := .sc (.int .i64 (pre.getLastD 0))) rfl ?_
            refine w_gT h2 ?_
            refine w_gT h2 ?_
            refine w_bin (v := .sc (.bool (decide ((pre.getLastD 0) ≥ x)))) (fun k => rfl) ?_
            refine w_hT (nF h1) ?_
            refine w_pTb h2 (mAT q2 h2) ?_
            exact rfl
          · refine w_gF h2 ?_
            refine w_gF h2 ?_
            refine w_gF h2 ?_
            refine w_gF h2 ?_
            refine w_gF h2 ?_
            refine w_gF h2 ?_
            refine w_gF h2 ?_
            refine w_hT (nF h1) ?_
            refine w_pFb h2 (mAF q2 h2) ?_
            exact rfl
        intro b2 q2
        refine w_pFb (nF h1) (by subst q2; exact mOF q1 (nF h1)) ?_
        exact rfl
      · refine w_hF (nT h1) ?_
        refine w_hF (nT h1) ?_
        refine w_hF (nT h1) ?_
        refine w_u ?_
        refine w_u ?_
        refine w_u ?_
        refine w_u ?_
        refine w_u ?_
        refine w_u ?_
        refine w_u ?_
        refine w_hF (nT h1) ?_
        refine w_pTb (nT h1) (mOT q1 (nT h1)) ?_
        exact rfl
    intro b1 q1
    refine w_split (b1) (fun h3 => ?_) (fun h3 => ?_)
    · refine w_cT h3 ?_
      exact w_endB (by (try clear ih); (try clear hlt); (try clear hix); (try clear hm); (try clear hmem); (try clear hpl); (try clear hsl); (try clear hlen); (try clear hqn); (try clear hqs); (try clear hs); (try clear B); (try clear B1); (try clear B2); (try clear hl); subst_vars; rw [goIn]; first | done | (cases h1 : vIn x 1 65535 <;> cases h2 : decide ((pre.length : Int) > 0) <;> cases h3 : decide ((pre.getLastD 0) ≥ x) <;> simp [h1, h2, h3] at * <;> first | omega | (simp_all; done) | (simp_all; omega)))
    · refine w_cF h3 ?_
      refine w_bin (v := .sc (.int .i64 (IntKind.i64.wrap ((pre.length : Int) + 1)))) (fun k => rfl) ?_
      rw [hix]
      refine (implIn_loop n hn ty l hlen r (pre ++ [x]) m _  (by rw [hl]; simp) (by simpa using hm)).trans (congrArg (fun b => some (AV.sc (Value.bool b))) ?_)
      (try clear ih); (try clear hlt); (try clear hix); (try clear hm); (try clear hmem); (try clear hpl); (try clear hsl); (try clear hlen); (try clear hqn); (try clear hqs); (try clear hs); (try clear B); (try clear B1); (try clear B2); (try clear hl); subst_vars; rw [goIn]; first | done | (cases h1 : vIn x 1 65535 <;> cases h2 : decide ((pre.length : Int) > 0) <;> cases h3 : decide ((pre.getLastD 0) ≥ x) <;> simp [h1, h2, h3] at * <;> first | omega | (simp_all; done) | (simp_all; omega))
def vInOk (l : List Int) : Bool := goIn l [] l
theorem specInF (n : Nat) (hn : 1048576 < n) (ty : Nat) (l : List Int) (hlen : l.length ≤ 1048576) : tree E0 (n + 4) ty 70 [intsC l] = some (.sc (.bool (vInOk l))) := by
  rw [tree_def, f70_eq, f70, ints_rows]
  exact specIn_loop n hn ty l hlen l [] (n + 3) [] rfl (by omega)
theorem implInF (n : Nat) (hn : 1048576 < n) (ty : Nat) (l : List Int) (hlen : l.length ≤ 1048576) : tree E0 (n + 4) ty 74 [intsC l] = some (.sc (.bool (vInOk l))) := by
  rw [tree_def, f74_eq, f74, ints_rows]
  simp only [PR_len]
  refine w_len ?_
  exact implIn_loop n hn ty l hlen l [] (n + 3) [] rfl (by omega)
def vPlace (clean : Bool) (conn gen : Int) : Bool := if conn == -1 then (!clean && gen == 0) else (vIn conn 0 3 && decide (gen ≥ 0))
def vName (s : ByteArray) : Bool := vTextOk s && !(s.toList == (⟨#[]⟩ : ByteArray).toList)
def vSessOk (s : SessV) : Bool := vName s.fClient && decide (s.fBorn ≥ 0) && vPlace s.fClean s.fConn s.fGen && vOutOk s.fO && vInOk s.fIn
theorem sess_hyp (s : SessV) (b0 : wtSess s ≤ 1048576) : s.fClient.size ≤ 1048576 ∧ wtOut s.fO ≤ 1048576 ∧ s.fIn.length ≤ 1048576 := by
  unfold wtSess at b0
  omega
theorem nameOkF (n : Nat) (ty : Nat) (s : ByteArray) (hs : s.size ≤ 1048576) : tree E0 (n + 2) ty 72 [.sc (.string s)] = some (.sc (.bool (vName s))) := by
  rw [tree_def, f72_eq, f72]
  try simp only [PR_box, PR_new, PR_fadr, PR_load, PR_store, PR_bin, PR_binB, PR_binA, PR_un, PR_cond, PR_guard, PR_pick, PR_len, PR_lenS, PR_iadr, PR_idx, PR_slice, PR_sliceS, PR_newSl, PR_fill, PR_make, PR_app, PR_cvI, PR_cvBS]
  refine lw_ext rfl (vcons (Vw_sc _ _) vnil) (implTextF _ s (okS_of hs)) ?_
  apply w_merge ((vTextOk s) && (!(s.toList == (⟨#[]⟩ : ByteArray).toList)))
  · intro b1 q1
    refine w_split ((vTextOk s)) (fun h1 => ?_) (fun h1 => ?_)
    · refine w_gT h1 ?_
      refine w_gT h1 ?_
      refine w_bin (v := .sc (.bool (!(s.toList == (⟨#[]⟩ : ByteArray).toList)))) (fun k => rfl) ?_
      refine w_pTb h1 (mAT q1 h1) ?_
      exact rfl
    · refine w_gF h1 ?_
      refine w_gF h1 ?_
      refine w_pFb h1 (mAF q1 h1) ?_
      exact rfl
  intro b1 q1
  exact w_endB (by subst_vars; rfl)
theorem placeOkF (n : Nat) (ty : Nat) (clean : Bool) (conn : Int) (gen : Int) : tree E0 (n + 2) ty 73 [.sc (.bool clean), .sc (.int .i64 conn), .sc (.int .i64 gen)] = some (.sc (.bool (vPlace clean conn gen))) := by
  rw [tree_def, f73_eq, f73]
  try simp only [PR_box, PR_new, PR_fadr, PR_load, PR_store, PR_bin, PR_binB, PR_binA, PR_un, PR_cond, PR_guard, PR_pick, PR_len, PR_lenS, PR_iadr, PR_idx, PR_slice, PR_sliceS, PR_newSl, PR_fill, PR_make, PR_app, PR_cvI, PR_cvBS]
  refine w_bin (v := .sc (.bool (conn == (-1)))) (fun k => rfl) ?_
  refine w_split ((conn == (-1))) (fun h1 => ?_) (fun h1 => ?_)
  · refine w_cT h1 ?_
    refine w_not ?_
    apply w_merge ((!clean) && (gen == 0))
    · intro b2 q2
      refine w_split (clean) (fun h2 => ?_) (fun h2 => ?_)
      · refine w_gF (nF h2) ?_
        refine w_gF (nF h2) ?_
        refine w_pFb (nF h2) (mAF q2 (nF h2)) ?_
        exact rfl
      · refine w_gT (nT h2) ?_
        refine w_gT (nT h2) ?_
        refine w_bin (v := .sc (.bool (gen == 0))) (fun k => rfl) ?_
        refine w_pTb (nT h2) (mAT q2 (nT h2)) ?_
        exact rfl
    intro b2 q2
    exact w_endB (by subst_vars; unfold vPlace; simp_all)
  · refine w_cF h1 ?_
    refine lw_sc rfl (vcons (Vw_sc _ _) (vcons (Vw_sc _ _) (vcons (Vw_sc _ _) vnil))) (withinF (n + 0) _ conn 0 3) ?_
    apply w_merge ((vIn conn 0 3) && (decide (gen ≥ 0)))
    · intro b3 q3
      refine w_split ((vIn conn 0 3)) (fun h3 => ?_) (fun h3 => ?_)
      · refine w_gT h3 ?_
        refine w_gT h3 ?_
        refine w_bin (v := .sc (.bool (decide (gen ≥ 0)))) (fun k => rfl) ?_
        refine w_pTb h3 (mAT q3 h3) ?_
        exact rfl
      · refine w_gF h3 ?_
        refine w_gF h3 ?_
        refine w_pFb h3 (mAF q3 h3) ?_
        exact rfl
    intro b3 q3
    exact w_endB (by subst_vars; unfold vPlace; simp_all)
theorem implSessF (n : Nat) (hn : 1048576 < n) (ty : Nat) (s : SessV) (hs : s.fClient.size ≤ 1048576) (hwo : wtOut s.fO ≤ 1048576) (hin : s.fIn.length ≤ 1048576) : tree E0 (n + 11) ty 32 [.agg (encSess s)] = some (.sc (.bool (vSessOk s))) := by
  rw [tree_def, f32_eq, f32]
  try simp only [PR_box, PR_new, PR_fadr, PR_load, PR_store, PR_bin, PR_binB, PR_binA, PR_un, PR_cond, PR_guard, PR_pick, PR_len, PR_lenS, PR_iadr, PR_idx, PR_slice, PR_sliceS, PR_newSl, PR_fill, PR_make, PR_app, PR_cvI, PR_cvBS]
  refine w_box (flSess _) fun iB1 eB1 B1 => ?_
  refine w_fadr ?_
  refine w_ld (c := .sc (.string s.fClient)) B1 (Nat.le_of_ble_eq_true rfl) rfl ?_
  refine lw_sc rfl (vcons (Vw_sc _ _) vnil) (nameOkF (n + 8) _ s.fClient hs) ?_
  apply w_merge ((vName s.fClient) && (decide (s.fBorn ≥ 0)))
  · intro b2 q2
    refine w_split ((vName s.fClient)) (fun h2 => ?_) (fun h2 => ?_)
    · refine w_gT h2 ?_
      refine w_fadr ?_
      refine w_gT h2 ?_
      refine w_ld (c := .sc (.int .i64 s.fBorn)) B1 (Nat.le_of_ble_eq_true rfl) rfl ?_
      refine w_gT h2 ?_
      refine w_bin (v := .sc (.bool (decide (s.fBorn ≥ 0)))) (fun k => rfl) ?_
      refine w_pTb h2 (mAT q2 h2) ?_
      exact rfl
    · refine w_gF h2 ?_
      refine w_gF h2 ?_
      refine w_gF h2 ?_
      refine w_pFb h2 (mAF q2 h2) ?_
      exact rfl
  intro b2 q2
  apply w_merge (b2 && (vPlace s.fClean s.fConn s.fGen))
  · intro b3 q3
    refine w_split (b2) (fun h3 => ?_) (fun h3 => ?_)
    · refine w_gT h3 ?_
      refine w_fadr ?_
      refine w_gT h3 ?_
      refine w_ld (c := .sc (.bool s.fClean)) B1 (Nat.le_of_ble_eq_true rfl) rfl ?_
      refine w_gT h3 ?_
      refine w_fadr ?_
      refine w_gT h3 ?_
      refine w_ld (c := .sc (.int .i64 s.fConn)) B1 (Nat.le_of_ble_eq_true rfl) rfl ?_
      refine w_gT h3 ?_
      refine w_fadr ?_
      refine w_gT h3 ?_
      refine w_ld (c := .sc (.int .i64 s.fGen)) B1 (Nat.le_of_ble_eq_true rfl) rfl ?_
      refine w_gT h3 ?_
      refine lw_sc rfl (vcons (Vw_sc _ _) (vcons (Vw_sc _ _) (vcons (Vw_sc _ _) vnil))) (placeOkF (n + 8) _ s.fClean s.fConn s.fGen) ?_
      refine w_pTb h3 (mAT q3 h3) ?_
      exact rfl
    · refine w_gF h3 ?_
      refine w_gF h3 ?_
      refine w_gF h3 ?_
      refine w_gF h3 ?_
      refine w_gF h3 ?_
      refine w_gF h3 ?_
      refine w_gF h3 ?_
      refine w_pFb h3 (mAF q3 h3) ?_
      exact rfl
  intro b3 q3
  apply w_merge (b3 && (vOutOk s.fO))
  · intro b4 q4
    refine w_split (b3) (fun h4 => ?_) (fun h4 => ?_)
    · refine w_gT h4 ?_
      refine w_fadr ?_
      refine w_gT h4 ?_
      refine w_ldA (ds := encOut s.fO) B1 (Nat.le_of_ble_eq_true rfl) rfl ?_
      refine w_gT h4 ?_
      refine lw_sc rfl (vcons (Vw_agg _ (flOut _)) vnil) (implOutF (n + 0) (by omega) _ s.fO hwo) ?_
      refine w_pTb h4 (mAT q4 h4) ?_
      exact rfl
    · refine w_gF h4 ?_
      refine w_gF h4 ?_
      refine w_gF h4 ?_
      refine w_pFb h4 (mAF q4 h4) ?_
      exact rfl
  intro b4 q4
  apply w_merge (b4 && (vInOk s.fIn))
  · intro b5 q5
    refine w_split (b4) (fun h5 => ?_) (fun h5 => ?_)
    · refine w_gT h5 ?_
      refine w_fadr ?_
      refine w_gT h5 ?_
      refine w_ld (c := intsC s.fIn) B1 (Nat.le_of_ble_eq_true rfl) rfl ?_
      refine w_gT h5 ?_
      refine lw_sc rfl (vcons (Vw_ro _ _ _) vnil) (implInF (n + 6) (by omega) _ s.fIn hin) ?_
      refine w_pTb h5 (mAT q5 h5) ?_
      exact rfl
    · refine w_gF h5 ?_
      refine w_gF h5 ?_
      refine w_gF h5 ?_
      refine w_pFb h5 (mAF q5 h5) ?_
      exact rfl
  intro b5 q5
  exact w_endB (by subst_vars; rfl)
theorem specSessF (n : Nat) (hn : 1048576 < n) (ty : Nat) (s : SessV) (hs : s.fClient.size ≤ 1048576) (hwo : wtOut s.fO ≤ 1048576) (hin : s.fIn.length ≤ 1048576) : tree E0 (n + 11) ty 30 [.agg (encSess s)] = some (.sc (.bool (vSessOk s))) := by
  rw [tree_def, f30_eq, f30]
  try simp only [PR_box, PR_new, PR_fadr, PR_load, PR_store, PR_bin, PR_binB, PR_binA, PR_un, PR_cond, PR_guard, PR_pick, PR_len, PR_lenS, PR_iadr, PR_idx, PR_slice, PR_sliceS, PR_newSl, PR_fill, PR_make, PR_app, PR_cvI, PR_cvBS]
  refine w_box (flSess _) fun iB1 eB1 B1 => ?_
  refine w_fadr ?_
  refine w_ld (c := .sc (.int .i64 s.fConn)) B1 (Nat.le_of_ble_eq_true rfl) rfl ?_
  refine w_bin (v := .sc (.bool (s.fConn == (-1)))) (fun k => rfl) ?_
  apply w_merge ((s.fConn == (-1)) && (s.fClean || (s.fGen != 0)))
  · intro b2 q2
    refine w_split ((s.fConn == (-1))) (fun h2 => ?_) (fun h2 => ?_)
    · refine w_gT h2 ?_
      refine w_fadr ?_
      refine w_gT h2 ?_
      refine w_ld (c := .sc (.bool s.fClean)) B1 (Nat.le_of_ble_eq_true rfl) rfl ?_
      refine w_gT h2 ?_
      apply w_merge (s.fClean || (s.fGen != 0))
      · intro b3 q3
        refine w_split (s.fClean) (fun h3 => ?_) (fun h3 => ?_)
        · refine w_hF h3 ?_
          refine w_hF h3 ?_
          refine w_hF h3 ?_
          refine w_gT h2 ?_
          refine w_pTb h3 (mOT q3 h3) ?_
          exact rfl
        · refine w_hT h3 ?_
          refine w_fadr ?_
          refine w_hT h3 ?_
          refine w_ld (c := .sc (.int .i64 s.fGen)) B1 (Nat.le_of_ble_eq_true rfl) rfl ?_
          refine w_hT h3 ?_
          refine w_bin (v := .sc (.bool (s.fGen != 0))) (fun k => rfl) ?_
          refine w_gT h2 ?_
          refine w_pFb h3 (mOF q3 h3) ?_
          exact rfl
      intro b3 q3
      refine w_pTb h2 (by subst q3; exact mAT q2 h2) ?_
      exact rfl
    · refine w_gF h2 ?_
      refine w_gF h2 ?_
      refine w_gF h2 ?_
      refine w_u ?_
      refine w_u ?_
      refine w_u ?_
      refine w_gF h2 ?_
      refine w_pFb h2 (mAF q2 h2) ?_
      exact rfl
  intro b2 q2
  refine w_split (b2) (fun h4 => ?_) (fun h4 => ?_)
  · refine w_cT h4 ?_
    exact w_endB (by (try clear B1); (try clear hs); (try clear hwo); (try clear hin); subst_vars; unfold vSessOk vName vPlace vIn; generalize vOutOk s.fO = o1 at *; generalize vInOk s.fIn = o2 at *; generalize vTextOk s.fClient = o3 at *; generalize (s.fClient.toList == (⟨#[]⟩ : ByteArray).toList) = o4 at *; generalize s.fClean = cl at *; generalize s.fConn = c at *; generalize s.fGen = g at *; generalize s.fBorn = bo at *; cases o1 <;> cases o2 <;> cases o3 <;> cases o4 <;> cases cl <;> (try simp) <;> (try simp at *) <;> first | done | omega | (rw [Bool.eq_iff_iff]; simp; omega) | (simp_all; omega) | (by_cases hc : c = -1 <;> simp [hc] at h4 ⊢ <;> first | done | (intros; omega) | (rw [Bool.eq_iff_iff]; simp; omega) | (simp_all; done) | (simp_all; omega)))
  · refine w_cF h4 ?_
    refine w_fadr ?_
    refine w_ld (c := .sc (.string s.fClient)) B1 (Nat.le_of_ble_eq_true rfl) rfl ?_
    refine lw_sc rfl (vcons (Vw_sc _ _) vnil) (specTextF (n + 6) (by omega) _ s.fClient) ?_
    apply w_merge ((vTextOk s.fClient) && (!(s.fClient.toList == (⟨#[]⟩ : ByteArray).toList)))
    · intro b5 q5
      refine w_split ((vTextOk s.fClient)) (fun h5 => ?_) (fun h5 => ?_)
      · refine w_gT h5 ?_
        refine w_fadr ?_
        refine w_gT h5 ?_
        refine w_ld (c := .sc (.string s.fClient)) B1 (Nat.le_of_ble_eq_true rfl) rfl ?_
        refine w_gT h5 ?_
        refine w_bin (v := .sc (.bool (!(s.fClient.toList == (⟨#[]⟩ : ByteArray).toList)))) (fun k => rfl) ?_
        refine w_pTb h5 (mAT q5 h5) ?_
        exact rfl
      · refine w_gF h5 ?_
        refine w_gF h5 ?_
        refine w_gF h5 ?_
        refine w_pFb h5 (mAF q5 h5) ?_
        exact rfl
    intro b5 q5
    apply w_merge (b5 && (decide (s.fBorn ≥ 0)))
    · intro b6 q6
      refine w_split (b5) (fun h6 => ?_) (fun h6 => ?_)
      · refine w_gT h6 ?_
        refine w_fadr ?_
        refine w_gT h6 ?_
        refine w_ld (c := .sc (.int .i64 s.fBorn)) B1 (Nat.le_of_ble_eq_true rfl) rfl ?_
        refine w_gT h6 ?_
        refine w_bin (v := .sc (.bool (decide (s.fBorn ≥ 0)))) (fun k => rfl) ?_
        refine w_pTb h6 (mAT q6 h6) ?_
        exact rfl
      · refine w_gF h6 ?_
        refine w_gF h6 ?_
        refine w_gF h6 ?_
        refine w_pFb h6 (mAF q6 h6) ?_
        exact rfl
    intro b6 q6
    apply w_merge (b6 && (vIn s.fConn (-1) 3))
    · intro b7 q7
      refine w_split (b6) (fun h7 => ?_) (fun h7 => ?_)
      · refine w_gT h7 ?_
        refine w_fadr ?_
        refine w_gT h7 ?_
        refine w_ld (c := .sc (.int .i64 s.fConn)) B1 (Nat.le_of_ble_eq_true rfl) rfl ?_
        refine w_gT h7 ?_
        refine lw_sc rfl (vcons (Vw_sc _ _) (vcons (Vw_sc _ _) (vcons (Vw_sc _ _) vnil))) (l1InF (n + 9) _ s.fConn (-1) 3) ?_
        refine w_pTb h7 (mAT q7 h7) ?_
        exact rfl
      · refine w_gF h7 ?_
        refine w_gF h7 ?_
        refine w_gF h7 ?_
        refine w_pFb h7 (mAF q7 h7) ?_
        exact rfl
    intro b7 q7
    apply w_merge (b7 && (decide (s.fGen ≥ 0)))
    · intro b8 q8
      refine w_split (b7) (fun h8 => ?_) (fun h8 => ?_)
      · refine w_gT h8 ?_
        refine w_fadr ?_
        refine w_gT h8 ?_
        refine w_ld (c := .sc (.int .i64 s.fGen)) B1 (Nat.le_of_ble_eq_true rfl) rfl ?_
        refine w_gT h8 ?_
        refine w_bin (v := .sc (.bool (decide (s.fGen ≥ 0)))) (fun k => rfl) ?_
        refine w_pTb h8 (mAT q8 h8) ?_
        exact rfl
      · refine w_gF h8 ?_
        refine w_gF h8 ?_
        refine w_gF h8 ?_
        refine w_pFb h8 (mAF q8 h8) ?_
        exact rfl
    intro b8 q8
    apply w_merge (b8 && (vOutOk s.fO))
    · intro b9 q9
      refine w_split (b8) (fun h9 => ?_) (fun h9 => ?_)
      · refine w_gT h9 ?_
        refine w_fadr ?_
        refine w_gT h9 ?_
        refine w_ldA (ds := encOut s.fO) B1 (Nat.le_of_ble_eq_true rfl) rfl ?_
        refine w_gT h9 ?_
        refine lw_sc rfl (vcons (Vw_agg _ (flOut _)) vnil) (specOutF (n + 0) (by omega) _ s.fO hwo) ?_
        refine w_pTb h9 (mAT q9 h9) ?_
        exact rfl
      · refine w_gF h9 ?_
        refine w_gF h9 ?_
        refine w_gF h9 ?_
        refine w_pFb h9 (mAF q9 h9) ?_
        exact rfl
    intro b9 q9
    apply w_merge (b9 && (vInOk s.fIn))
    · intro b10 q10
      refine w_split (b9) (fun h10 => ?_) (fun h10 => ?_)
      · refine w_gT h10 ?_
        refine w_fadr ?_
        refine w_gT h10 ?_
        refine w_ld (c := intsC s.fIn) B1 (Nat.le_of_ble_eq_true rfl) rfl ?_
        refine w_gT h10 ?_
        refine lw_sc rfl (vcons (Vw_ro _ _ _) vnil) (specInF (n + 6) (by omega) _ s.fIn hin) ?_
        refine w_pTb h10 (mAT q10 h10) ?_
        exact rfl
      · refine w_gF h10 ?_
        refine w_gF h10 ?_
        refine w_gF h10 ?_
        refine w_pFb h10 (mAF q10 h10) ?_
        exact rfl
    intro b10 q10
    exact w_endB (by (try clear B1); (try clear hs); (try clear hwo); (try clear hin); subst_vars; unfold vSessOk vName vPlace vIn; generalize vOutOk s.fO = o1 at *; generalize vInOk s.fIn = o2 at *; generalize vTextOk s.fClient = o3 at *; generalize (s.fClient.toList == (⟨#[]⟩ : ByteArray).toList) = o4 at *; generalize s.fClean = cl at *; generalize s.fConn = c at *; generalize s.fGen = g at *; generalize s.fBorn = bo at *; cases o1 <;> cases o2 <;> cases o3 <;> cases o4 <;> cases cl <;> (try simp) <;> (try simp at *) <;> first | done | omega | (rw [Bool.eq_iff_iff]; simp; omega) | (simp_all; omega) | (by_cases hc : c = -1 <;> simp [hc] at h4 ⊢ <;> first | done | (intros; omega) | (rw [Bool.eq_iff_iff]; simp; omega) | (simp_all; done) | (simp_all; omega)))
theorem specF_SessOk (n : Nat) (hn : 1048576 < n) (s : SessV) (k0 : okSess s) (b0 : wtSess s ≤ 1048576) : tree E0 (n + 11) 4 30 [.agg (encSess s)] = some (.sc (.bool (vSessOk s))) := specSessF n hn _ s (sess_hyp s b0).1 (sess_hyp s b0).2.1 (sess_hyp s b0).2.2
theorem implF_SessOk (n : Nat) (hn : 1048576 < n) (s : SessV) (k0 : okSess s) (b0 : wtSess s ≤ 1048576) : tree E0 (n + 11) 4 32 [.agg (encSess s)] = some (.sc (.bool (vSessOk s))) := implSessF n hn _ s (sess_hyp s b0).1 (sess_hyp s b0).2.1 (sess_hyp s b0).2.2

end Go.Proofs.YtpcgppelelfmiaaDoor.Abs
