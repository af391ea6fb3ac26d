/- What the proof needs, part 4: a sound evaluator over trees, the program's functions on it, and what they come to. -/
import Derived.Test.YtdameggfgnpehaaGreatDoorMc
import Derived.Lib.TrimUEq
import Derived.Lib.ValidLaws
import Derived.Lib.MapLaws
set_option linter.unusedVariables false
set_option linter.unusedSimpArgs false
namespace Go.Proofs.YtdameggfgnpehaaGreatDoor.Abs
open Go
variable {β : Type} {n : Nat} {res : Option β}
theorem FdsM_len {n : Nat} : ∀ {off : Nat} {fds : List FD} {ts : List Nat}, FdsM n off fds ts → fds.length = ts.length
 | _, [], [], _ => rfl
 | _, _ :: _, _ :: _, h => by simp [FdsM_len h.2.2]
 | _, [], _ :: _, h => h.elim
 | _, _ :: _, [], h => h.elim
theorem len_sl (id off m w : Nat) (k : AV → Option β) : pLen (.sl id off m w) k = k (.sc (.int .i64 m)) := rfl
theorem loop_m {tS tI gT w len : Nat} {cty : List Nat} {fds : List FD} (hT : TxtOk n tS gT) (hf : FdsM n 0 fds cty) (hw : fds.length = w) (hlen : len ≤ 1048576) (L : Nat → AV → AV → AV → Heap → Option β) (kk : AV → Heap → Option β)
  (hL : ∀ m a k i H, L (m + 1) a k i H = pLen a fun t8 => pBin .lss i t8 fun t9 => pCond t9 (bodyM (PR n β) tS tI gT w a i fds k H fun k' H => pBin .add i (.sc (.int .i64 1)) fun i' => L m a k' i' H) (kk k H)) :
  ∀ (r i m : Nat) (P S : List AV) (TP : List Nat) (k : Int) (A C : Heap), P.length = i * w → TP.length = P.length → i + r = len → r < m → wfL (repF r (fds.map FD.f)) S → 0 ≤ k → k + cntL (repF r (fds.map FD.f)) S ≤ 4611686018427387904 →
   (∀ X, kk (.sc (.int .i64 (mkL (repF r (fds.map FD.f)) k S).2)) (A ++ (SB A.length (TP ++ (List.replicate r cty).flatten) (P ++ (mkL (repF r (fds.map FD.f)) k S).1) ++ (C ++ X))) = res) →
   L m (.sl A.length 0 len w) (.sc (.int .i64 k)) (.sc (.int .i64 i)) (A ++ (SB A.length (TP ++ (List.replicate r cty).flatten) (P ++ S) ++ C)) = res
 | 0, i, m + 1, P, S, TP, k, A, C, hP, hTP, hr, hm, hwf, h0, h1, h => by
  have hS : S = [] := by
   have := wfL_len hwf
   simp [repF] at this
   exact List.eq_nil_of_length_eq_zero this.symm
  subst hS
  obtain rfl : i = len := by omega
  rw [hL]
  rw [len_sl, lss_nat, cond_b, if_neg (by simp)]
  have := h []
  simp only [List.append_nil, mkL] at this ⊢
  exact this
 | r + 1, i, m + 1, P, S, TP, k, A, C, hP, hTP, hr, hm, hwf, h0, h1, h => by
  have hi : i < len := by omega
  have hml : (fds.map FD.f).length = w := by simp [hw]
  have hSl : S.length = (r + 1) * w := by
   have := wfL_len hwf
   rw [repF_len, hml] at this
   exact this.symm
  obtain ⟨R, S', rfl, hRl⟩ : ∃ R S', S = R ++ S' ∧ R.length = w := ⟨S.take w, S.drop w, (List.take_append_drop w S).symm, by rw [List.length_take, hSl, Nat.succ_mul]; omega⟩
  rw [repF_succ] at hwf h1 h
  have hl : (fds.map FD.f).length = R.length := by rw [hml, hRl]
  obtain ⟨hwR, hwS⟩ := (wfL_append hl).1 hwf
  rw [cntL_append _ _ _ _ hl] at h1
  rw [mkL_append _ _ _ _ _ hl] at h
  have hkc := mkL_cnt R (fds.map FD.f) k
  have hRl' := mkL_len R (fds.map FD.f) k
  have hcl : cty.length = w := by rw [← FdsM_len hf, hw]
  rw [List.replicate_succ, List.flatten_cons] at h ⊢
  rw [hL]
  rw [len_sl, lss_nat, cond_b, if_pos (by simpa using hi)]
  refine body_m (w := w) (tI := tI) hT hi fds 0 P R S' TP cty (List.replicate r cty).flatten k A C _ hf hTP (by rw [hP, Nat.add_zero]) hwR h0 (by omega) fun X => ?_
  rw [inc_nat _ _ (by omega)]
  have ih := loop_m hT hf hw hlen L kk hL r (i + 1) m (P ++ (mkL (fds.map FD.f) k R).1) S' (TP ++ cty) (mkL (fds.map FD.f) k R).2 A (C ++ X) (by rw [List.length_append, hP, hRl', hRl, Nat.succ_mul]) (by rw [List.length_append, List.length_append, hTP, hcl, hRl', hRl]) (by omega) (by omega) hwS (by omega) (by omega) (fun Y => by
   have := h (X ++ Y)
   simp only [List.append_assoc] at this ⊢
   exact this)
  simp only [List.append_assoc] at ih ⊢
  exact ih
theorem mark_ok {tS tI gT w f tyS : Nat} {cty : List Nat} {fds : List FD} (hh : E0.hm f = true) (hx : E0.ext f = none) (hT : TxtOk n tS gT) (hf : FdsM n 0 fds cty) (hw : fds.length = w) (hty : ∃ i j, ti0 tyS = some i ∧ ti0 i.elem = some j ∧ j.size = w ∧ j.cty = cty) (hn : 1048576 < n)
  (L : (β : Type) → (AV → Heap → Option β) → Nat → AV → AV → AV → Heap → Option β)
  (hL : ∀ β kk m a k i H, L β kk (m + 1) a k i H = pLen a fun t8 => pBin .lss i t8 fun t9 => pCond t9 (bodyM (PR n β) tS tI gT w a i fds k H fun k' H => pBin .add i (.sc (.int .i64 1)) fun i' => L β kk m a k' i' H) (kk k H))
  (hF : ∀ β a b H kk, evalFn E0 (n + 1) β f [a, b] H kk = L β kk n a b (.sc (.int .i64 0)) H) : MarkOk (n + 1) f tyS (fds.map FD.f) := by
 obtain ⟨ti, tj, h1, h2, h3, h4⟩ := hty
 refine ⟨hh, hx, ⟨ti, tj, h1, h2⟩, fun len cells k hwf h0 hb => ?_⟩
 intro β A C K r h
 obtain ⟨hlen, hcl, hwl⟩ := (show len ≤ 1048576 ∧ cells.length = len * (fds.map FD.f).length ∧ wfL (repF len (fds.map FD.f)) cells from hwf)
 rw [hF, inst_SB h1 h2, h3, h4]
 have hmk : mkF (.sub (fds.map FD.f)) k (.ro len cells) = (.ro len (mkL (repF len (fds.map FD.f)) k cells).1, (mkL (repF len (fds.map FD.f)) k cells).2) := rfl
 rw [hmk] at h
 simp only [inst_SB h1 h2, h3, h4] at h
 exact loop_m (n := n) (cty := cty) hT hf hw hlen (L β K) K (hL β K) len 0 n [] cells [] k A C (by simp) rfl (by omega) (by omega) hwl h0 hb h
theorem body_h {tS tI gT w len i : Nat} {F : Heap → Option β} (hT : TxtOk n tS gT) (hi : i < len) (cells : List AV) (hw0 : i * w < cells.length) : ∀ (todo : List FD) (off : Nat) (Q R S : List AV) (k : Int) (H : Heap) (K : AV → Heap → Option β),
  FdsH n off todo → Q.length = i * w + off → wfL (todo.map FD.f) R → 0 ≤ k → k + cntL (todo.map FD.f) R ≤ 4611686018427387904 → cells = Q ++ ((mkL (todo.map FD.f) k R).1 ++ S) →
  (∀ X, K (.sc (.int .i64 (mkL (todo.map FD.f) k R).2)) (H ++ X) = res) →
  bodyH (PR n β) tS tI gT w (.ro len cells) (.sc (.int .i64 i)) F todo (.sc (.int .i64 k)) H K = res
 | [], off, Q, R, S, k, H, K, hf, hq, hw, h0, h1, hc, h => by
  cases R with
  | nil =>
   have := h []
   rw [List.append_nil] at this
   exact this
  | cons c R => exact absurd rfl hw.1
 | fd :: todo, off, Q, R, S, k, H, K, hf, hq, hw, h0, h1, hc, h => by
  cases R with
  | nil => exact absurd (show fd.f :: todo.map FD.f = [] from hw) (by simp)
  | cons c R =>
  obtain ⟨hpath, hsub, hrest⟩ := hf
  obtain ⟨hwc, hwR⟩ := wfL_cons.1 hw
  have hmk : mkL ((fd :: todo).map FD.f) k (c :: R) = ((mkF fd.f k c).1 :: (mkL (todo.map FD.f) (mkF fd.f k c).2 R).1, (mkL (todo.map FD.f) (mkF fd.f k c).2 R).2) := rfl
  rw [hmk] at h hc
  have hcells : cells = Q ++ (mkF fd.f k c).1 :: ((mkL (todo.map FD.f) (mkF fd.f k c).2 R).1 ++ S) := hc
  have hpl : ∀ K' : AV → Option β, (pIadr w (.ro len cells) (.sc (.int .i64 i)) fun t => fadrs (PR n β) fd.path t fun t => pLoad false 1 t H K') = K' (mkF fd.f k c).1 := fun K' => by
   rw [iadr_ro w _ _ i _ hi hw0, fadrs_rp, hpath, List.drop_drop, ← hq]
   conv => lhs; rw [hcells]
   rw [List.drop_append_of_le_length (Nat.le_refl _), List.drop_length, List.nil_append, ld1_rp]
  have go : ∀ (H' : Heap), (∀ X, K (.sc (.int .i64 (mkL (todo.map FD.f) (mkF fd.f k c).2 R).2)) (H' ++ X) = res) → 0 ≤ (mkF fd.f k c).2 → (mkF fd.f k c).2 + cntL (todo.map FD.f) R ≤ 4611686018427387904 →
    bodyH (PR n β) tS tI gT w (.ro len cells) (.sc (.int .i64 i)) F todo (.sc (.int .i64 (mkF fd.f k c).2)) H' K = res := by
   intro H' h' g0 g1
   exact body_h hT hi cells hw0 todo (off + 1) (Q ++ [(mkF fd.f k c).1]) R S (mkF fd.f k c).2 H' K hrest (by simp [hq]; omega) hwR g0 g1 (by rw [hcells]; simp) h'
  have hcnt := mkF_cnt c fd.f k
  have h1 : k + (cntF fd.f c + cntL (todo.map FD.f) R : Nat) ≤ 4611686018427387904 := h1
  obtain ⟨f, path, g⟩ := fd
  simp only at hcnt h1 hpl go h
  cases f with
  | skip =>
   have hc : ∃ v, c = .sc v := by
    cases c <;> first | exact ⟨_, rfl⟩ | exact hwc.elim
   obtain ⟨v, rfl⟩ := hc
   exact go H h h0 (by simpa [cntF, mkF] using h1)
  | sub fs =>
   have hc : ∃ m cells, c = .ro m cells := by
    cases c with
    | ro m cells => exact ⟨m, cells, rfl⟩
    | sc v => exact hwc.elim
    | _ => exact hwc.elim
   obtain ⟨m, cs, rfl⟩ := hc
   obtain ⟨hh, hhe⟩ := hsub
   show (pIadr w (.ro len cells) (.sc (.int .i64 i)) fun t => fadrs (PR n β) path t fun t => pLoad false 1 t H fun v => (PR n β).call tI (.fn g [] []) [v, .sc (.int .i64 k)] H fun k H => pBin .lss k (.sc (.int .i64 0)) fun b => pCond b (F H) (bodyH (PR n β) tS tI gT w _ _ F todo k H K)) = res
   rw [hpl, PR_call (vs := [(mkF (.sub fs) k (.ro m cs)).1, .sc (.int .i64 k)]) hh rfl (hhe tI m cs k hwc h0 (by omega)), instT_sc, List.append_nil]
   simp only
   rw [lss64, cond_b, if_neg (by simp; omega)]
   exact go H h (by omega) (by omega)
  | str =>
   have hc : ∃ s, c = .sc (.string s) := by
    cases c with
    | sc v => cases v <;> first | exact ⟨_, rfl⟩ | exact hwc.elim
    | _ => exact hwc.elim
   obtain ⟨v, rfl⟩ := hc
   have h1 : k + (1 + cntL (todo.map FD.f) R : Nat) ≤ 4611686018427387904 := h1
   have hpl' : ∀ K' : AV → Option β, (pIadr w (.ro len cells) (.sc (.int .i64 i)) fun t => fadrs (PR n β) path t fun t => pLoad false 1 t H K') = K' (.sc (.string (mTxt k))) := hpl
   show (pIadr w (.ro len cells) (.sc (.int .i64 i)) fun t => fadrs (PR n β) path t fun t => pLoad false 1 t H fun v => (PR n β).call tS (.fn gT [] []) [.sc (.int .i64 k)] H fun s H => pBin .neq v s fun b => pCond b (F H) (pBin .add (.sc (.int .i64 k)) (.sc (.int .i64 1)) fun k => bodyH (PR n β) tS tI gT w _ _ F todo k H K)) = res
   rw [hpl', call_txt hT h0 (by omega), neqS]
   simp only [beq_self_eq_true, Bool.not_true]
   rw [cond_b, if_neg (by simp), add1 _ _ h0 (by omega)]
   exact go H h (by show 0 ≤ k + 1; omega) (by show k + 1 + _ ≤ _; omega)
  | int =>
   have hc : ∃ z, c = .sc (.int .i64 z) := by
    cases c with
    | sc v => cases v with
     | int kd z => cases kd <;> first | exact ⟨_, rfl⟩ | exact hwc.elim
     | _ => exact hwc.elim
    | _ => exact hwc.elim
   obtain ⟨v, rfl⟩ := hc
   have h1 : k + (1 + cntL (todo.map FD.f) R : Nat) ≤ 4611686018427387904 := h1
   have hpl' : ∀ K' : AV → Option β, (pIadr w (.ro len cells) (.sc (.int .i64 i)) fun t => fadrs (PR n β) path t fun t => pLoad false 1 t H K') = K' (.sc (.int .i64 k)) := hpl
   show (pIadr w (.ro len cells) (.sc (.int .i64 i)) fun t => fadrs (PR n β) path t fun t => pLoad false 1 t H fun v => pBin .neq v (.sc (.int .i64 k)) fun b => pCond b (F H) (pBin .add (.sc (.int .i64 k)) (.sc (.int .i64 1)) fun k => bodyH (PR n β) tS tI gT w _ _ F todo k H K)) = res
   rw [hpl', neq64]
   simp only [bne_self_eq_false]
   rw [cond_b, if_neg (by simp), add1 _ _ h0 (by omega)]
   exact go H h (by show 0 ≤ k + 1; omega) (by show k + 1 + _ ≤ _; omega)
  | bool =>
   have hc : ∃ b, c = .sc (.bool b) := by
    cases c with
    | sc v => cases v <;> first | exact ⟨_, rfl⟩ | exact hwc.elim
    | _ => exact hwc.elim
   obtain ⟨v, rfl⟩ := hc
   have h1 : k + (1 + cntL (todo.map FD.f) R : Nat) ≤ 4611686018427387904 := h1
   have hpl' : ∀ K' : AV → Option β, (pIadr w (.ro len cells) (.sc (.int .i64 i)) fun t => fadrs (PR n β) path t fun t => pLoad false 1 t H K') = K' (.sc (.bool (k.tmod 3 == 0))) := hpl
   show (pIadr w (.ro len cells) (.sc (.int .i64 i)) fun t => fadrs (PR n β) path t fun t => pLoad false 1 t H fun v => pBinB .neq v (.sc (.bool (k.tmod 3 == 0))) fun b => pCond b (F H) (pBin .add (.sc (.int .i64 k)) (.sc (.int .i64 1)) fun k => bodyH (PR n β) tS tI gT w _ _ F todo k H K)) = res
   rw [hpl', neqB]
   simp only [beq_self_eq_true, Bool.not_true]
   rw [cond_b, if_neg (by simp), add1 _ _ h0 (by omega)]
   exact go H h (by show 0 ≤ k + 1; omega) (by show k + 1 + _ ≤ _; omega)
  | byt =>
   have hc : ∃ z, c = .sc (.int .u8 z) := by
    cases c with
    | sc v => cases v with
     | int kd z => cases kd <;> first | exact ⟨_, rfl⟩ | exact hwc.elim
     | _ => exact hwc.elim
    | _ => exact hwc.elim
   obtain ⟨v, rfl⟩ := hc
   have h1 : k + (1 + cntL (todo.map FD.f) R : Nat) ≤ 4611686018427387904 := h1
   have hpl' : ∀ K' : AV → Option β, (pIadr w (.ro len cells) (.sc (.int .i64 i)) fun t => fadrs (PR n β) path t fun t => pLoad false 1 t H K') = K' (.sc (.int .u8 (IntKind.u8.wrap k))) := hpl
   show (pIadr w (.ro len cells) (.sc (.int .i64 i)) fun t => fadrs (PR n β) path t fun t => pLoad false 1 t H fun v => pBin .neq v (.sc (.int .u8 (IntKind.u8.wrap k))) fun b => pCond b (F H) (pBin .add (.sc (.int .i64 k)) (.sc (.int .i64 1)) fun k => bodyH (PR n β) tS tI gT w _ _ F todo k H K)) = res
   rw [hpl']
   show pCond (.sc (.bool (IntKind.u8.wrap k != IntKind.u8.wrap k))) _ _ = res
   simp only [bne_self_eq_false]
   rw [cond_b, if_neg (by simp), add1 _ _ h0 (by omega)]
   exact go H h (by show 0 ≤ k + 1; omega) (by show k + 1 + _ ≤ _; omega)
theorem loop_h {tS tI gT w len : Nat} {fds : List FD} (hT : TxtOk n tS gT) (hf : FdsH n 0 fds) (hw : fds.length = w) (hw0 : 0 < w) (hlen : len ≤ 1048576) (cells : List AV) (L : Nat → AV → AV → AV → Heap → Option β) (kk : AV → Heap → Option β)
  (hL : ∀ m a k i H, L (m + 1) a k i H = pLen a fun t8 => pBin .lss i t8 fun t9 => pCond t9 (bodyH (PR n β) tS tI gT w a i (fun H => kk (.sc (.int .i64 (-1))) H) fds k H fun k' H => pBin .add i (.sc (.int .i64 1)) fun i' => L m a k' i' H) (kk k H)) :
  ∀ (r i m : Nat) (P S : List AV) (k : Int) (H : Heap), P.length = i * w → i + r = len → r < m → wfL (repF r (fds.map FD.f)) S → 0 ≤ k → k + cntL (repF r (fds.map FD.f)) S ≤ 4611686018427387904 → cells = P ++ (mkL (repF r (fds.map FD.f)) k S).1 →
   (∀ X, kk (.sc (.int .i64 (mkL (repF r (fds.map FD.f)) k S).2)) (H ++ X) = res) →
   L m (.ro len cells) (.sc (.int .i64 k)) (.sc (.int .i64 i)) H = res
 | 0, i, m + 1, P, S, k, H, hP, hr, hm, hwf, h0, h1, hc, h => by
  have hS : S = [] := by
   have := wfL_len hwf
   simp [repF] at this
   exact List.eq_nil_of_length_eq_zero this.symm
  subst hS
  obtain rfl : i = len := by omega
  rw [hL, len_ro, lss_nat, cond_b, if_neg (by simp)]
  have := h []
  simp only [List.append_nil, mkL] at this ⊢
  exact this
 | r + 1, i, m + 1, P, S, k, H, hP, hr, hm, hwf, h0, h1, hc, h => by
  have hi : i < len := by omega
  have hml : (fds.map FD.f).length = w := by simp [hw]
  have hSl : S.length = (r + 1) * w := by
   have := wfL_len hwf
   rw [repF_len, hml] at this
   exact this.symm
  obtain ⟨R, S', rfl, hRl⟩ : ∃ R S', S = R ++ S' ∧ R.length = w := ⟨S.take w, S.drop w, (List.take_append_drop w S).symm, by rw [List.length_take, hSl, Nat.succ_mul]; omega⟩
  rw [repF_succ] at hwf h1 h hc
  have hl : (fds.map FD.f).length = R.length := by rw [hml, hRl]
  obtain ⟨hwR, hwS⟩ := (wfL_append hl).1 hwf
  rw [cntL_append _ _ _ _ hl] at h1
  rw [mkL_append _ _ _ _ _ hl] at h hc
  have hkc := mkL_cnt R (fds.map FD.f) k
  have hRl' := mkL_len R (fds.map FD.f) k
  have hcl : i * w < cells.length := by
   rw [hc, List.length_append, List.length_append, hRl', hRl, hP]
   omega
  rw [hL, len_ro, lss_nat, cond_b, if_pos (by simpa using hi)]
  refine body_h (w := w) (tI := tI) hT hi cells hcl fds 0 P R (mkL (repF r (fds.map FD.f)) (mkL (fds.map FD.f) k R).2 S').1 k H _ hf (by rw [hP, Nat.add_zero]) hwR h0 (by omega) hc fun X => ?_
  rw [inc_nat _ _ (by omega)]
  exact loop_h hT hf hw hw0 hlen cells L kk hL r (i + 1) m (P ++ (mkL (fds.map FD.f) k R).1) S' (mkL (fds.map FD.f) k R).2 (H ++ X) (by rw [List.length_append, hP, hRl', hRl, Nat.succ_mul]) (by omega) (by omega) hwS (by omega) (by omega) (by rw [hc, List.append_assoc]) (fun Y => by
   have := h (X ++ Y)
   rw [List.append_assoc]
   exact this)
theorem held_ok {tS tI gT w f : Nat} {fds : List FD} (hh : plainF f = false) (hT : TxtOk n tS gT) (hf : FdsH n 0 fds) (hw : fds.length = w) (hw0 : 0 < w) (hn : 1048576 < n)
  (L : (AV → Heap → Option AV) → Nat → AV → AV → AV → Heap → Option AV)
  (hL : ∀ kk m a k i H, L kk (m + 1) a k i H = pLen a fun t8 => pBin .lss i t8 fun t9 => pCond t9 (bodyH (PR n AV) tS tI gT w a i (fun H => kk (.sc (.int .i64 (-1))) H) fds k H fun k' H => pBin .add i (.sc (.int .i64 1)) fun i' => L kk m a k' i' H) (kk k H))
  (hF : ∀ a b H kk, evalFn E0 (n + 1) AV f [a, b] H kk = L kk n a b (.sc (.int .i64 0)) H) : HeldOk (n + 1) f (fds.map FD.f) := by
 refine ⟨hh, fun ty len cells k hwf h0 hb => ?_⟩
 obtain ⟨hlen, hcl, hwl⟩ := (show len ≤ 1048576 ∧ cells.length = len * (fds.map FD.f).length ∧ wfL (repF len (fds.map FD.f)) cells from hwf)
 rw [tree_def, hF]
 exact loop_h (n := n) hT hf hw hw0 hlen (mkL (repF len (fds.map FD.f)) k cells).1 (L fun x H => ownTree ti0 E0.tp ty H x) (fun x H => ownTree ti0 E0.tp ty H x) (hL _) len 0 n [] cells k [] (by simp) (by omega) (by omega) hwl h0 hb rfl (fun X => rfl)
end Go.Proofs.YtdameggfgnpehaaGreatDoor.Abs
set_option linter.unusedVariables false
set_option linter.unusedSimpArgs false
namespace Go.Proofs.YtdameggfgnpehaaGreatDoor.Abs
open Go
section txt
theorem txt_fill (v : AV) (h : cellsA v = some [v]) : fillA [(.sc (.int .u8 0))] [(0, 1, v)] = some [v] := by
 simp [fillA, h, splice]
theorem txt_bytes (H : Heap) (b : UInt8) : content (H ++ [⟨[.sc (.int .u8 b.toNat)], true, true⟩]) 1 (.sl H.length 0 1 1) = some [.sc (.int .u8 b.toNat)] := by
 simp only [content, if_true, rdCells, get_at H _ []]
 rfl
theorem digs_pos {k : Nat} (h : ¬ k = 0) (out : ByteArray) : digs k out = digs (k / 10) (⟨#[UInt8.ofNat (48 + k % 10)]⟩ ++ out) := by
 rw [digs, dif_neg h]
theorem txt_loop {n ty : Nat} (L : Nat → AV → AV → Heap → Option AV)
  (hL : ∀ m k s H, L (m + 1) k s H = pBin .gtr k (.sc (.int .i64 0)) fun t7 => pCond t7 (pBin .rem k (.sc (.int .i64 10)) fun t9 => pBin .add (.sc (.int .i64 48)) t9 fun t10 => pCvI .u8 t10 fun t11 =>
   (fillA [(.sc (.int .u8 0))] [(0, 1, t11)]).bind fun ct12 => pNewSl 1 1 ct12 true H fun t12 H => pCvBS t12 H fun t13 => pBin .add t13 s fun t15 => pBin .quo k (.sc (.int .i64 10)) fun t17 => L m t17 t15 H)
   (pBin .add (.sc (.string ⟨#[109]⟩)) s fun t19 => ownTree ti0 E0.tp ty H t19)) :
  ∀ (b m k : Nat) (out : ByteArray) (H : Heap), k ≤ 4611686018427387904 → k < 10 ^ b → b < m → out.size + b ≤ 1000 → L m (.sc (.int .i64 k)) (.sc (.string out)) H = some (.sc (.string (⟨#[109]⟩ ++ digs k out)))
 | b, 0, k, out, H, hk0, h1, h2, h3 => by omega
 | b, m + 1, k, out, H, hk0, h1, h2, h3 => by
  rw [hL, gtr64, cond_b]
  by_cases hk : k = 0
  ·subst hk
   rw [if_neg (by simp)]
   have hs : (⟨#[109]⟩ : ByteArray).size + out.size ≤ 9223372036854775807 := by
    show 1 + out.size ≤ _
    omega
   show (binS .add ⟨#[109]⟩ out).bind _ = _
   simp only [binS, if_pos hs, Option.bind_some]
   rw [digs, dif_pos rfl]
   rfl
  ·rw [if_pos (by simp; omega)]
   have e9 : ∀ K : AV → Option AV, pBin .rem (.sc (.int .i64 (k : Int))) (.sc (.int .i64 10)) K = K (.sc (.int .i64 ((k % 10 : Nat) : Int))) := by
    intro K
    show K (.sc (.int .i64 ((k : Int).tmod 10))) = _
    rw [show ((k : Int).tmod 10) = ((k % 10 : Nat) : Int) from by
     rw [Int.tmod_eq_emod_of_nonneg (by omega)]; simp]
   have e10 : ∀ K : AV → Option AV, pBin .add (.sc (.int .i64 48)) (.sc (.int .i64 ((k % 10 : Nat) : Int))) K = K (.sc (.int .i64 ((48 + k % 10 : Nat) : Int))) := by
    intro K
    show K (.sc (.int .i64 (IntKind.i64.wrap (48 + ((k % 10 : Nat) : Int))))) = _
    rw [wrap64 _ (by omega) (by omega)]
    rfl
   have e11 : ∀ K : AV → Option AV, pCvI .u8 (.sc (.int .i64 ((48 + k % 10 : Nat) : Int))) K = K (.sc (.int .u8 ((UInt8.ofNat (48 + k % 10)).toNat : Int))) := by
    intro K
    show K (.sc (.int .u8 (IntKind.u8.wrap ((48 + k % 10 : Nat) : Int)))) = _
    have : (UInt8.ofNat (48 + k % 10)).toNat = 48 + k % 10 := by
     rw [UInt8.toNat_ofNat']
     omega
    rw [this]
    have hw : IntKind.u8.wrap ((48 + k % 10 : Nat) : Int) = ((48 + k % 10 : Nat) : Int) := by
     have h10 : k % 10 < 10 := Nat.mod_lt _ (by decide)
     unfold IntKind.wrap
     simp [IntKind.bits, IntKind.signed]
     omega
    rw [hw]
   have e17 : ∀ K : AV → Option AV, pBin .quo (.sc (.int .i64 (k : Int))) (.sc (.int .i64 10)) K = K (.sc (.int .i64 ((k / 10 : Nat) : Int))) := by
    intro K
    show K (.sc (.int .i64 (IntKind.i64.wrap ((k : Int).tdiv 10)))) = _
    rw [Int.tdiv_eq_ediv_of_nonneg (by omega), wrap64 _ (by omega) (by omega)]
    rfl
   rw [e9, e10, e11, txt_fill _ rfl]
   have hb : ((UInt8.ofNat (48 + k % 10)).toNat : Int).toNat = (UInt8.ofNat (48 + k % 10)).toNat := Int.toNat_natCast _
   have hbb : ([.sc (.int .u8 ((UInt8.ofNat (48 + k % 10)).toNat : Int))] : List AV).mapM byteOf = some [UInt8.ofNat (48 + k % 10)] := byteOf_bytes [UInt8.ofNat (48 + k % 10)]
   simp only [Option.bind_some, pNewSl, pCvBS, txt_bytes, hbb]
   have hs : (⟨#[UInt8.ofNat (48 + k % 10)]⟩ : ByteArray).size + out.size ≤ 9223372036854775807 := by
    show 1 + out.size ≤ _
    omega
   have e15 : ∀ K : AV → Option AV, pBin .add (.sc (.string ⟨[UInt8.ofNat (48 + k % 10)].toArray⟩)) (.sc (.string out)) K = K (.sc (.string (⟨#[UInt8.ofNat (48 + k % 10)]⟩ ++ out))) := by
    intro K
    show (binS .add ⟨#[UInt8.ofNat (48 + k % 10)]⟩ out).bind _ = _
    simp only [binS, if_pos hs, Option.bind_some]
   rw [e15, e17]
   cases b with
   | zero => simp at h1; omega
   | succ b =>
    have hk10 : k / 10 < 10 ^ b := by
     rw [Nat.pow_succ] at h1
     omega
    have hsz : (⟨#[UInt8.ofNat (48 + k % 10)]⟩ ++ out : ByteArray).size = 1 + out.size := by
     rw [ByteArray.size_append]
     rfl
    rw [txt_loop (n := n) (ty := ty) L hL b m (k / 10) _ _ (by omega) hk10 (by omega) (by rw [hsz]; omega)]
    rw [digs_pos hk out]
end txt
theorem txt_ok {n tS f : Nat} (hh : plainF f = false) (hn : 1048576 < n) (L : (AV → Heap → Option AV) → Nat → AV → AV → Heap → Option AV)
  (hL : ∀ kk m k s H, L kk (m + 1) k s H = pBin .gtr k (.sc (.int .i64 0)) fun t7 => pCond t7 (pBin .rem k (.sc (.int .i64 10)) fun t9 => pBin .add (.sc (.int .i64 48)) t9 fun t10 => pCvI .u8 t10 fun t11 =>
   (fillA [(.sc (.int .u8 0))] [(0, 1, t11)]).bind fun ct12 => pNewSl 1 1 ct12 true H fun t12 H => pCvBS t12 H fun t13 => pBin .add t13 s fun t15 => pBin .quo k (.sc (.int .i64 10)) fun t17 => L kk m t17 t15 H)
   (pBin .add (.sc (.string ⟨#[109]⟩)) s fun t19 => kk t19 H))
  (hF : ∀ a H kk, evalFn E0 (n + 1) AV f [a] H kk = pBin .leq a (.sc (.int .i64 0)) fun t5 => pCond t5 (kk (.sc (.string ⟨#[109, 48]⟩)) H) (L kk n a (.sc (.string ⟨#[]⟩)) H)) : TxtOk (n + 1) tS f := by
 refine ⟨hh, fun k h0 h1 => ?_⟩
 rw [tree_def, hF, leq64, cond_b]
 by_cases hk : k ≤ 0
 ·rw [if_pos (by simpa using hk), own_v, mTxt, if_pos hk]
  rfl
 ·rw [if_neg (by simpa using hk)]
  obtain ⟨m, rfl⟩ : ∃ m : Nat, k = m := ⟨k.toNat, by omega⟩
  have := txt_loop (n := n) (ty := tS) (L fun x H => ownTree ti0 E0.tp tS H x) (hL _) 19 n m ⟨#[]⟩ [] (by omega) (by omega) (by omega) (by decide)
  rw [this, mTxt, if_neg hk]
  rfl
inductive FV where
 | skip
 | sub (fs : List MF) (path : List Nat) (g : FuncId)
 | agg (l : List MF) (path : List Nat) (w : Nat) (g : FuncId)
def flatV : List FV → List MF
 | [] => []
 | .skip :: r => .skip :: flatV r
 | .sub fs _ _ :: r => .sub fs :: flatV r
 | .agg l _ _ _ :: r => l ++ flatV r
def MarkV (n g : Nat) (cty : List Nat) (fs : List MF) : Prop := E0.hm g = true ∧ E0.ext g = none ∧ ∀ (cs : List AV) (k : Int) (β : Type) (A C : Heap) (K : AV → Heap → Option β) (r : Option β), wfL fs cs → 0 ≤ k → k + cntL fs cs ≤ 4611686018427387904 →
 (∀ X, K (.sc (.int .i64 (mkL fs k cs).2)) (A ++ ((instL ti0 E0.tp A.length cty (mkL fs k cs).1).2 ++ (C ++ X))) = r) → evalFn E0 n β g [.agg (instL ti0 E0.tp A.length cty cs).1, .sc (.int .i64 k)] (A ++ ((instL ti0 E0.tp A.length cty cs).2 ++ C)) K = r
def HeldV (n g : Nat) (fs : List MF) : Prop := plainF g = false ∧ ∀ (ty : Nat) (cs : List AV) (k : Int), wfL fs cs → 0 ≤ k → k + cntL fs cs ≤ 4611686018427387904 → tree E0 n ty g [.agg (mkL fs k cs).1, .sc (.int .i64 k)] = some (.sc (.int .i64 (mkL fs k cs).2))
def isV : MF → Bool
 | .skip => true
 | .sub _ => true
 | _ => false
def FvM (n : Nat) : Nat → List FV → List Nat → Prop
 | _, [], [] => True
 | off, .skip :: r, _ :: ts => FvM n (off + 1) r ts
 | off, .sub fs path g :: r, t :: ts => path.sum = off ∧ MarkOk n g t fs ∧ FvM n (off + 1) r ts
 | off, .agg l path w g :: r, ts => path.sum = off ∧ l.length = w ∧ 0 < w ∧ l.all isV = true ∧ MarkV n g (ts.take w) l ∧ w ≤ ts.length ∧ FvM n (off + w) r (ts.drop w)
 | _, _, _ => False
def FvH (n : Nat) : Nat → List FV → Prop
 | _, [] => True
 | off, .skip :: r => FvH n (off + 1) r
 | off, .sub fs path g :: r => path.sum = off ∧ HeldOk n g fs ∧ FvH n (off + 1) r
 | off, .agg l path w g :: r => path.sum = off ∧ l.length = w ∧ 0 < w ∧ HeldV n g l ∧ FvH n (off + w) r
section fns
variable {β : Type}
def bodyV (p : Pr β) (tI : Nat) (x : AV) : List FV → AV → Heap → (AV → Heap → Option β) → Option β
 | [], k, H, K => K k H
 | .skip :: r, k, H, K => bodyV p tI x r k H K
 | .sub _ path g :: r, k, H, K => fadrs p path x fun t => p.load false 1 t H fun v => p.call tI (.fn g [] []) [v, k] H fun k H => bodyV p tI x r k H K
 | .agg _ path w g :: r, k, H, K => fadrs p path x fun t => p.load true w t H fun v => p.call tI (.fn g [] []) [v, k] H fun k H => bodyV p tI x r k H K
def bodyHV (p : Pr β) (tI : Nat) (x : AV) (F : Heap → Option β) : List FV → AV → Heap → (AV → Heap → Option β) → Option β
 | [], k, H, K => K k H
 | .skip :: r, k, H, K => bodyHV p tI x F r k H K
 | .sub _ path g :: r, k, H, K => fadrs p path x fun t => p.load false 1 t H fun v => p.call tI (.fn g [] []) [v, k] H fun k H => p.bin .lss k (.sc (.int .i64 0)) fun b => p.cond b (F H) (bodyHV p tI x F r k H K)
 | .agg _ path w g :: r, k, H, K => fadrs p path x fun t => p.load true w t H fun v => p.call tI (.fn g [] []) [v, k] H fun k H => p.bin .lss k (.sc (.int .i64 0)) fun b => p.cond b (F H) (bodyHV p tI x F r k H K)
variable {n : Nat} {res : Option β}
theorem mk_ro_same {t g : Nat} {n : Nat} {fs : List MF} (h : MarkOk n g t fs) (k : Int) (m : Nat) (cells : List AV) (M : Nat) : (instT ti0 E0.tp M t (mkF (.sub fs) k (.ro m cells)).1).1 = (instT ti0 E0.tp M t (.ro m cells)).1 := by
 obtain ⟨_, _, ⟨j1, j2, hj1, hj2⟩, _⟩ := h
 rw [inst_SB hj1 hj2]
 show (instT ti0 E0.tp M t (.ro m _)).1 = _
 rw [inst_SB hj1 hj2]
theorem mkL_same {ti : Nat → Option TI} {tp : Nat → Option (List Nat)} : ∀ (cs : List AV) (fs : List MF) (k : Int) (N : Nat) (ts : List Nat), fs.all isV = true → wfL fs cs → (instL ti tp N ts (mkL fs k cs).1).1 = (instL ti tp N ts cs).1
 | [], fs, k, N, ts, _, _ => by simp [mkL]
 | c :: cs, [], k, N, ts, _, hw => absurd rfl hw.1
 | c :: cs, f :: fs, k, N, ts, hv, hw => by
  obtain ⟨h1, h2⟩ := wfL_cons.1 hw
  rw [List.all_cons, Bool.and_eq_true] at hv
  have ih := mkL_same (ti := ti) (tp := tp) cs fs (mkF f k c).2 (N + nbT c) ts.tail hv.2 h2
  have hn := mkF_nb c f k
  have e : (instT ti tp N (ts.headD 0) (mkF f k c).1).1 = (instT ti tp N (ts.headD 0) c).1 := by
   cases c with
   | sc v => cases f <;> first | rfl | (exfalso; simpa [isV] using hv.1)
   | ro m cells => cases f <;> first | rfl | exact h1.elim
   | _ => exact h1.elim
  show (instT ti tp N (ts.headD 0) (mkF f k c).1).1 :: (instL ti tp (N + (instT ti tp N (ts.headD 0) (mkF f k c).1).2.length) ts.tail (mkL fs (mkF f k c).2 cs).1).1 = _ :: (instL ti tp (N + (instT ti tp N (ts.headD 0) c).2.length) ts.tail cs).1
  rw [inst_nb, inst_nb, e, hn, ih]
theorem body_v {tI idx : Nat} {ys : List AV} : ∀ (todo : List FV) (off : Nat) (Q R : List AV) (TP tR : List Nat) (k : Int) (A D : Heap) (K : AV → Heap → Option β),
  FvM n off todo tR → TP.length = Q.length → Q.length = off → wfL (flatV todo) R → 0 ≤ k → k + cntL (flatV todo) R ≤ 4611686018427387904 →
  (instL ti0 E0.tp A.length (TP ++ tR) (Q ++ R)).1 = ys → D[idx]? = some ⟨ys, true, true⟩ →
  (∀ X, K (.sc (.int .i64 (mkL (flatV todo) k R).2)) (A ++ ((instL ti0 E0.tp A.length (TP ++ tR) (Q ++ (mkL (flatV todo) k R).1)).2 ++ (D ++ X))) = res) →
  bodyV (PR n β) tI (.ptr (A.length + nbL (Q ++ R) + idx) 0) todo (.sc (.int .i64 k)) (A ++ ((instL ti0 E0.tp A.length (TP ++ tR) (Q ++ R)).2 ++ D)) K = res
 | [], off, Q, R, TP, tR, k, A, D, K, hf, hT, hq, hw, h0, h1, hy, hD, h => by
  cases R with
  | nil =>
   have := h []
   rw [List.append_nil D] at this
   exact this
  | cons c R => exact absurd rfl hw.1
 | .skip :: todo, off, Q, R, TP, tR, k, A, D, K, hf, hT, hq, hw, h0, h1, hy, hD, h => by
  cases R with
  | nil => exact absurd (show MF.skip :: flatV todo = [] from hw) (by simp)
  | cons c R =>
  cases tR with
  | nil => exact hf.elim
  | cons t tR =>
  obtain ⟨hwc, hwR⟩ := wfL_cons.1 (show wfL (MF.skip :: flatV todo) (c :: R) from hw)
  obtain ⟨v, rfl⟩ : ∃ v, c = .sc v := by
   cases c <;> first | exact ⟨_, rfl⟩ | exact hwc.elim
  have e1 : Q ++ .sc v :: R = (Q ++ [.sc v]) ++ R := by simp
  have e2 : TP ++ t :: tR = (TP ++ [t]) ++ tR := by simp
  have h1 : k + (0 + cntL (flatV todo) R : Nat) ≤ 4611686018427387904 := h1
  rw [e1, e2] at hy ⊢
  refine body_v todo (off + 1) (Q ++ [.sc v]) R (TP ++ [t]) tR k A D K hf (by simp [hT]) (by simp [hq]) hwR h0 (by omega) hy hD fun X => ?_
  have := h X
  rw [e2] at this
  simp only [List.append_assoc] at this ⊢
  exact this
 | .sub fs path g :: todo, off, Q, R, TP, tR, k, A, D, K, hf, hT, hq, hw, h0, h1, hy, hD, h => by
  cases R with
  | nil => exact absurd (show MF.sub fs :: flatV todo = [] from hw) (by simp)
  | cons c R =>
  cases tR with
  | nil => exact hf.elim
  | cons t tR =>
  obtain ⟨hpath, hmk, hrest⟩ := hf
  obtain ⟨hwc, hwR⟩ := wfL_cons.1 (show wfL (MF.sub fs :: flatV todo) (c :: R) from hw)
  obtain ⟨m, cells, rfl⟩ : ∃ m cells, c = .ro m cells := by
   cases c with
   | ro m cells => exact ⟨m, cells, rfl⟩
   | sc v => exact hwc.elim
   | _ => exact hwc.elim
  have h1 : k + (cntF (.sub fs) (.ro m cells) + cntL (flatV todo) R : Nat) ≤ 4611686018427387904 := h1
  have hk' := mkF_cnt (.ro m cells) (.sub fs) k
  have hn' := mkF_nb (.ro m cells) (.sub fs) k
  have hs' := mk_ro_same hmk k m cells
  have hmk2 := hmk.2.2.2 m cells k hwc h0 (by omega)
  have hl : (instL ti0 E0.tp A.length TP Q).1.length = Q.length := instL_len _ _ _
  have hsplit := fun (x : AV) => inst_mid (ti := ti0) (tp := E0.tp) TP tR t Q R x A.length hT
  rw [hsplit] at hy
  have hys : ys.drop off = (instT ti0 E0.tp (A.length + nbL Q) t (.ro m cells)).1 :: (instL ti0 E0.tp (A.length + nbL Q + nbT (.ro m cells)) tR R).1 := by
   rw [← hy, ← hq, ← hl, List.drop_append_of_le_length (Nat.le_refl _), List.drop_length, List.nil_append]
  have hlen : (instL ti0 E0.tp A.length (TP ++ t :: tR) (Q ++ .ro m cells :: R)).2.length = nbL (Q ++ .ro m cells :: R) := instL_nb _ _ _
  show (fadrs (PR n β) path (.ptr (A.length + nbL (Q ++ .ro m cells :: R) + idx) 0) fun t => pLoad false 1 t _ fun v => (PR n β).call tI (.fn g [] []) [v, .sc (.int .i64 k)] _ fun k H => bodyV (PR n β) tI _ todo k H K) = res
  rw [fadrs_ptr, hpath, Nat.zero_add]
  have hget : (A ++ ((instL ti0 E0.tp A.length (TP ++ t :: tR) (Q ++ .ro m cells :: R)).2 ++ D))[A.length + nbL (Q ++ .ro m cells :: R) + idx]? = some ⟨ys, true, true⟩ := by
   rw [List.getElem?_append_right (by omega), List.getElem?_append_right (by omega), hlen]
   rw [show A.length + nbL (Q ++ .ro m cells :: R) + idx - A.length - nbL (Q ++ .ro m cells :: R) = idx by omega]
   exact hD
  have hld : rdCells (A ++ ((instL ti0 E0.tp A.length (TP ++ t :: tR) (Q ++ .ro m cells :: R)).2 ++ D)) (A.length + nbL (Q ++ .ro m cells :: R) + idx) off 1 = some [(instT ti0 E0.tp (A.length + nbL Q) t (.ro m cells)).1] := by
   have hle : off + 1 ≤ ys.length := by
    have := congrArg List.length hys
    rw [List.length_drop, List.length_cons] at this
    omega
   simp only [rdCells, hget, if_true, hle, hys]
   rfl
  rw [ldF hld, PR_hm hmk.1 hmk.2.1]
  have e : ∀ (x : AV) (B : Heap), A ++ ((instL ti0 E0.tp A.length (TP ++ t :: tR) (Q ++ x :: R)).2 ++ B) = (A ++ (instL ti0 E0.tp A.length TP Q).2) ++ ((instT ti0 E0.tp (A.length + nbL Q) t x).2 ++ ((instL ti0 E0.tp (A.length + nbL Q + nbT x) tR R).2 ++ B)) := by
   intro x B
   simp only [hsplit, List.append_assoc]
  have hN : (A ++ (instL ti0 E0.tp A.length TP Q).2).length = A.length + nbL Q := by rw [List.length_append, instL_nb]
  rw [e]
  have key := hmk2 β (A ++ (instL ti0 E0.tp A.length TP Q).2) ((instL ti0 E0.tp (A.length + nbL Q + nbT (.ro m cells)) tR R).2 ++ D) (fun k H => bodyV (PR n β) tI (.ptr (A.length + nbL (Q ++ .ro m cells :: R) + idx) 0) todo k H K) res
  rw [hN] at key
  refine key fun X => ?_
  generalize hc' : (mkF (.sub fs) k (.ro m cells)).1 = c' at hn' hs' h ⊢
  have e1 : ∀ (Y : List AV), Q ++ c' :: Y = (Q ++ [c']) ++ Y := fun Y => by simp
  have e2 : TP ++ t :: tR = (TP ++ [t]) ++ tR := by simp
  have e3 : nbL (Q ++ .ro m cells :: R) = nbL ((Q ++ [c']) ++ R) := by
   rw [nbL_append, nbL_append, nbL_append]
   show nbL Q + (nbT (.ro m cells) + nbL R) = nbL Q + (nbT c' + 0) + nbL R
   rw [hn']
   omega
  have e4 := e c' (D ++ X)
  rw [hn'] at e4
  rw [List.append_assoc (instL ti0 E0.tp (A.length + nbL Q + nbT (.ro m cells)) tR R).2 D X, ← e4, e3, e2, e1 R]
  refine body_v (tI := tI) (idx := idx) (ys := ys) todo (off + 1) (Q ++ [c']) R (TP ++ [t]) tR (mkF (.sub fs) k (.ro m cells)).2 A (D ++ X) K hrest (by simp [hT]) (by simp [hq]) hwR (by omega) (by omega) ?_ ?_ fun Y => ?_
  ·rw [← e1, ← e2, hsplit, hs', hn', hy]
  ·rw [List.getElem?_append_left (List.getElem?_eq_some_iff.1 hD).1]
   exact hD
  ·have := h (X ++ Y)
   have hm : mkL (flatV (.sub fs path g :: todo)) k (.ro m cells :: R) = (c' :: (mkL (flatV todo) (mkF (.sub fs) k (.ro m cells)).2 R).1, (mkL (flatV todo) (mkF (.sub fs) k (.ro m cells)).2 R).2) := by rw [← hc']; rfl
   rw [hm, e2, e1] at this
   rw [List.append_assoc D X Y]
   exact this
 | .agg l path w g :: todo, off, Q, R, TP, tR, k, A, D, K, hf, hT, hq, hw, h0, h1, hy, hD, h => by
  obtain ⟨hpath, hlw, hw0, hlv, hmk, hwt, hrest⟩ := hf
  have hRlen : w ≤ R.length := by
   have := wfL_len (show wfL (l ++ flatV todo) R from hw)
   rw [List.length_append] at this
   omega
  obtain ⟨c, R, rfl, hcl⟩ : ∃ c R', R = c ++ R' ∧ c.length = w := ⟨R.take w, R.drop w, (List.take_append_drop w R).symm, by rw [List.length_take]; omega⟩
  obtain ⟨t, tR, rfl, htl⟩ : ∃ c R', tR = c ++ R' ∧ c.length = w := ⟨tR.take w, tR.drop w, (List.take_append_drop w tR).symm, by rw [List.length_take]; omega⟩
  rw [List.take_left' htl] at hmk
  rw [List.drop_left' htl] at hrest
  have hlc : l.length = c.length := by rw [hlw, hcl]
  obtain ⟨hwc, hwR⟩ := (wfL_append hlc).1 (show wfL (l ++ flatV todo) (c ++ R) from hw)
  have h1 : k + (cntL l c + cntL (flatV todo) R : Nat) ≤ 4611686018427387904 := by
   have := cntL_append l (flatV todo) c R hlc
   rw [← this]
   exact h1
  have hk' := mkL_cnt c l k
  have hn' := mkL_nb c l k
  have hl' := mkL_len c l k
  have hs' := fun N => mkL_same (ti := ti0) (tp := E0.tp) c l k N t hlv hwc
  have hl : (instL ti0 E0.tp A.length TP Q).1.length = Q.length := instL_len _ _ _
  have hsplit : ∀ x : List AV, x.length = c.length → instL ti0 E0.tp A.length (TP ++ (t ++ tR)) (Q ++ (x ++ R)) = ((instL ti0 E0.tp A.length TP Q).1 ++ ((instL ti0 E0.tp (A.length + nbL Q) t x).1 ++ (instL ti0 E0.tp (A.length + nbL Q + nbL x) tR R).1), (instL ti0 E0.tp A.length TP Q).2 ++ ((instL ti0 E0.tp (A.length + nbL Q) t x).2 ++ (instL ti0 E0.tp (A.length + nbL Q + nbL x) tR R).2)) := by
   intro x hx
   rw [instL_append TP Q (t ++ tR) (x ++ R) _ hT, instL_nb, instL_append t x tR R _ (by rw [htl, hx, hcl]), instL_nb]
  rw [hsplit c rfl] at hy
  have hil : (instL ti0 E0.tp (A.length + nbL Q) t c).1.length = w := by rw [instL_len, hcl]
  have hys : ys.drop off = (instL ti0 E0.tp (A.length + nbL Q) t c).1 ++ (instL ti0 E0.tp (A.length + nbL Q + nbL c) tR R).1 := by
   rw [← hy, ← hq, ← hl, List.drop_append_of_le_length (Nat.le_refl _), List.drop_length, List.nil_append]
  have hlen : (instL ti0 E0.tp A.length (TP ++ (t ++ tR)) (Q ++ (c ++ R))).2.length = nbL (Q ++ (c ++ R)) := instL_nb _ _ _
  show (fadrs (PR n β) path (.ptr (A.length + nbL (Q ++ (c ++ R)) + idx) 0) fun t => pLoad true w t _ fun v => (PR n β).call tI (.fn g [] []) [v, .sc (.int .i64 k)] _ fun k H => bodyV (PR n β) tI _ todo k H K) = res
  rw [fadrs_ptr, hpath, Nat.zero_add]
  have hget : (A ++ ((instL ti0 E0.tp A.length (TP ++ (t ++ tR)) (Q ++ (c ++ R))).2 ++ D))[A.length + nbL (Q ++ (c ++ R)) + idx]? = some ⟨ys, true, true⟩ := by
   rw [List.getElem?_append_right (by omega), List.getElem?_append_right (by omega), hlen]
   rw [show A.length + nbL (Q ++ (c ++ R)) + idx - A.length - nbL (Q ++ (c ++ R)) = idx by omega]
   exact hD
  have hld : rdCells (A ++ ((instL ti0 E0.tp A.length (TP ++ (t ++ tR)) (Q ++ (c ++ R))).2 ++ D)) (A.length + nbL (Q ++ (c ++ R)) + idx) off w = some (instL ti0 E0.tp (A.length + nbL Q) t c).1 := by
   have hle : off + w ≤ ys.length := by
    have := congrArg List.length hys
    rw [List.length_drop, List.length_append, hil] at this
    omega
   simp only [rdCells, hget, if_true, hle, hys]
   rw [List.take_left' hil]
  rw [ldT hld, PR_hm hmk.1 hmk.2.1]
  have e : ∀ (x : List AV) (B : Heap), x.length = c.length → A ++ ((instL ti0 E0.tp A.length (TP ++ (t ++ tR)) (Q ++ (x ++ R))).2 ++ B) = (A ++ (instL ti0 E0.tp A.length TP Q).2) ++ ((instL ti0 E0.tp (A.length + nbL Q) t x).2 ++ ((instL ti0 E0.tp (A.length + nbL Q + nbL x) tR R).2 ++ B)) := by
   intro x B hx
   simp only [hsplit x hx, List.append_assoc]
  have hN : (A ++ (instL ti0 E0.tp A.length TP Q).2).length = A.length + nbL Q := by rw [List.length_append, instL_nb]
  rw [e c _ rfl]
  have key := hmk.2.2 c k β (A ++ (instL ti0 E0.tp A.length TP Q).2) ((instL ti0 E0.tp (A.length + nbL Q + nbL c) tR R).2 ++ D) (fun k H => bodyV (PR n β) tI (.ptr (A.length + nbL (Q ++ (c ++ R)) + idx) 0) todo k H K) res hwc h0 (by omega)
  rw [hN] at key
  refine key fun X => ?_
  have hm : mkL (flatV (.agg l path w g :: todo)) k (c ++ R) = ((mkL l k c).1 ++ (mkL (flatV todo) (mkL l k c).2 R).1, (mkL (flatV todo) (mkL l k c).2 R).2) := mkL_append l (flatV todo) k c R hlc
  generalize hc' : (mkL l k c).1 = c' at hn' hl' hs' hm ⊢
  have e1 : ∀ (Y : List AV), Q ++ (c' ++ Y) = (Q ++ c') ++ Y := fun Y => by simp
  have e2 : TP ++ (t ++ tR) = (TP ++ t) ++ tR := by simp
  have e3 : nbL (Q ++ (c ++ R)) = nbL ((Q ++ c') ++ R) := by
   rw [nbL_append, nbL_append, nbL_append, nbL_append, hn']
   omega
  have e4 := e c' (D ++ X) hl'
  rw [hn'] at e4
  rw [List.append_assoc (instL ti0 E0.tp (A.length + nbL Q + nbL c) tR R).2 D X, ← e4, e3, e2, e1 R]
  refine body_v (tI := tI) (idx := idx) (ys := ys) todo (off + w) (Q ++ c') R (TP ++ t) tR (mkL l k c).2 A (D ++ X) K hrest (by simp [hT, htl, hl', hcl]) (by simp [hq, hl', hcl]) hwR (by omega) (by omega) ?_ ?_ fun Y => ?_
  ·rw [← e1, ← e2, hsplit _ hl', hs', hn', hy]
  ·rw [List.getElem?_append_left (List.getElem?_eq_some_iff.1 hD).1]
   exact hD
  ·have := h (X ++ Y)
   rw [hm, e2, e1] at this
   rw [List.append_assoc D X Y]
   exact this
theorem markv_ok {tI f : Nat} {cty : List Nat} {fvs : List FV} (hh : E0.hm f = true) (hx : E0.ext f = none) (hf : FvM n 0 fvs cty) (hv : (flatV fvs).all isV = true) (hlf : ∀ (cs : List AV) (N : Nat), wfL (flatV fvs) cs → (instL ti0 E0.tp N cty cs).1.all isLeaf = true)
  (hF : ∀ β a b H kk, evalFn E0 (n + 1) β f [a, b] H kk = pBox a H fun x H => bodyV (PR n β) tI x fvs b H kk) : MarkV (n + 1) f cty (flatV fvs) := by
 refine ⟨hh, hx, fun cs k β A C K r hw h0 hb h => ?_⟩
 rw [hF]
 have hc : cellsA (.agg (instL ti0 E0.tp A.length cty cs).1) = some (instL ti0 E0.tp A.length cty cs).1 := by
  show (if _ then _ else none) = _
  rw [if_pos (hlf cs _ hw)]
 simp only [pBox, hc, Option.bind_some, pNew]
 have hlen : (instL ti0 E0.tp A.length cty cs).2.length = nbL cs := instL_nb _ _ _
 have e1 : (A ++ ((instL ti0 E0.tp A.length cty cs).2 ++ C)).length = A.length + nbL ([] ++ cs) + C.length := by
  simp only [List.length_append, hlen, List.nil_append]
  omega
 rw [e1]
 have e2 : A ++ ((instL ti0 E0.tp A.length cty cs).2 ++ C) ++ [⟨(instL ti0 E0.tp A.length cty cs).1, true, true⟩] = A ++ ((instL ti0 E0.tp A.length ([] ++ cty) ([] ++ cs)).2 ++ (C ++ [⟨(instL ti0 E0.tp A.length cty cs).1, true, true⟩])) := by simp
 rw [e2]
 refine body_v fvs 0 [] cs [] cty k A _ K hf rfl rfl hw h0 hb rfl (by rw [List.getElem?_append_right (Nat.le_refl _), Nat.sub_self]; rfl) fun X => ?_
 have := h ([⟨(instL ti0 E0.tp A.length cty cs).1, true, true⟩] ++ X)
 simp only [List.append_assoc, List.nil_append] at this ⊢
 exact this
theorem body_hv {tI : Nat} {F : Heap → Option β} (cells : List AV) (hfl : cells.all isFl = true) : ∀ (todo : List FV) (off : Nat) (Q R : List AV) (k : Int) (H : Heap) (K : AV → Heap → Option β),
  FvH n off todo → Q.length = off → wfL (flatV todo) R → 0 ≤ k → k + cntL (flatV todo) R ≤ 4611686018427387904 → cells = Q ++ (mkL (flatV todo) k R).1 → H[0]? = some ⟨cells, true, true⟩ →
  (∀ X, K (.sc (.int .i64 (mkL (flatV todo) k R).2)) (H ++ X) = res) →
  bodyHV (PR n β) tI (.ptr 0 0) F todo (.sc (.int .i64 k)) H K = res
 | [], off, Q, R, k, H, K, hf, hq, hw, h0, h1, hc, hH, h => by
  cases R with
  | nil =>
   have := h []
   rw [List.append_nil H] at this
   exact this
  | cons c R => exact absurd rfl hw.1
 | .skip :: todo, off, Q, R, k, H, K, hf, hq, hw, h0, h1, hc, hH, h => by
  cases R with
  | nil => exact absurd (show MF.skip :: flatV todo = [] from hw) (by simp)
  | cons c R =>
  obtain ⟨hwc, hwR⟩ := wfL_cons.1 (show wfL (MF.skip :: flatV todo) (c :: R) from hw)
  obtain ⟨v, rfl⟩ : ∃ v, c = .sc v := by
   cases c <;> first | exact ⟨_, rfl⟩ | exact hwc.elim
  have h1 : k + (0 + cntL (flatV todo) R : Nat) ≤ 4611686018427387904 := h1
  exact body_hv cells hfl todo (off + 1) (Q ++ [.sc v]) R k H K hf (by simp [hq]) hwR h0 (by omega) (by rw [List.append_assoc]; exact hc) hH h
 | .sub fs path g :: todo, off, Q, R, k, H, K, hf, hq, hw, h0, h1, hc, hH, h => by
  cases R with
  | nil => exact absurd (show MF.sub fs :: flatV todo = [] from hw) (by simp)
  | cons c R =>
  obtain ⟨hpath, hhe, hrest⟩ := hf
  obtain ⟨hwc, hwR⟩ := wfL_cons.1 (show wfL (MF.sub fs :: flatV todo) (c :: R) from hw)
  obtain ⟨m, cs, rfl⟩ : ∃ m cells, c = .ro m cells := by
   cases c with
   | ro m cells => exact ⟨m, cells, rfl⟩
   | sc v => exact hwc.elim
   | _ => exact hwc.elim
  have h1 : k + (cntF (.sub fs) (.ro m cs) + cntL (flatV todo) R : Nat) ≤ 4611686018427387904 := h1
  have hk' := mkF_cnt (.ro m cs) (.sub fs) k
  have hm : mkL (flatV (.sub fs path g :: todo)) k (.ro m cs :: R) = ((mkF (.sub fs) k (.ro m cs)).1 :: (mkL (flatV todo) (mkF (.sub fs) k (.ro m cs)).2 R).1, (mkL (flatV todo) (mkF (.sub fs) k (.ro m cs)).2 R).2) := rfl
  rw [hm] at hc h
  have hld : rdCells H 0 off 1 = some [(mkF (.sub fs) k (.ro m cs)).1] := by
   have hle : off + 1 ≤ cells.length := by
    rw [hc, List.length_append, List.length_cons]
    omega
   have hd : (cells.drop off).take 1 = [(mkF (.sub fs) k (.ro m cs)).1] := by
    rw [hc, ← hq, List.drop_append_of_le_length (Nat.le_refl _), List.drop_length]
    rfl
   simp only [rdCells, hH, if_true, hle, hd]
  show (fadrs (PR n β) path (.ptr 0 0) fun t => pLoad false 1 t H fun v => (PR n β).call tI (.fn g [] []) [v, .sc (.int .i64 k)] H fun k H => pBin .lss k (.sc (.int .i64 0)) fun b => pCond b (F H) (bodyHV (PR n β) tI _ F todo k H K)) = res
  rw [fadrs_ptr, hpath, Nat.zero_add, ldF hld, PR_call (vs := [(mkF (.sub fs) k (.ro m cs)).1, .sc (.int .i64 k)]) hhe.1 rfl (hhe.2 tI m cs k hwc h0 (by omega)), instT_sc, List.append_nil]
  simp only
  rw [lss64, cond_b, if_neg (by simp; omega)]
  exact body_hv cells hfl todo (off + 1) (Q ++ [(mkF (.sub fs) k (.ro m cs)).1]) R _ H K hrest (by simp [hq]) hwR (by omega) (by omega) (by rw [List.append_assoc]; exact hc) hH h
 | .agg l path w g :: todo, off, Q, R, k, H, K, hf, hq, hw, h0, h1, hc, hH, h => by
  obtain ⟨hpath, hlw, hw0, hhe, hrest⟩ := hf
  have hRlen : w ≤ R.length := by
   have := wfL_len (show wfL (l ++ flatV todo) R from hw)
   rw [List.length_append] at this
   omega
  obtain ⟨c, R, rfl, hcl⟩ : ∃ c R', R = c ++ R' ∧ c.length = w := ⟨R.take w, R.drop w, (List.take_append_drop w R).symm, by rw [List.length_take]; omega⟩
  have hlc : l.length = c.length := by rw [hlw, hcl]
  obtain ⟨hwc, hwR⟩ := (wfL_append hlc).1 (show wfL (l ++ flatV todo) (c ++ R) from hw)
  have h1 : k + (cntL l c + cntL (flatV todo) R : Nat) ≤ 4611686018427387904 := by
   have := cntL_append l (flatV todo) c R hlc
   rw [← this]
   exact h1
  have hk' := mkL_cnt c l k
  have hl' := mkL_len c l k
  have hm : mkL (flatV (.agg l path w g :: todo)) k (c ++ R) = ((mkL l k c).1 ++ (mkL (flatV todo) (mkL l k c).2 R).1, (mkL (flatV todo) (mkL l k c).2 R).2) := mkL_append l (flatV todo) k c R hlc
  rw [hm] at hc h
  have hd : (cells.drop off).take w = (mkL l k c).1 := by
   rw [hc, ← hq, List.drop_append_of_le_length (Nat.le_refl _), List.drop_length, List.nil_append, List.take_left' (by rw [hl', hcl])]
  have hld : rdCells H 0 off w = some (mkL l k c).1 := by
   have hle : off + w ≤ cells.length := by
    rw [hc, List.length_append, List.length_append, hl', hcl]
    omega
   simp only [rdCells, hH, if_true, hle, hd]
  have hfc : (mkL l k c).1.all isFl = true := by
   rw [hc, List.all_append, List.all_append, Bool.and_eq_true, Bool.and_eq_true] at hfl
   exact hfl.2.1
  show (fadrs (PR n β) path (.ptr 0 0) fun t => pLoad true w t H fun v => (PR n β).call tI (.fn g [] []) [v, .sc (.int .i64 k)] H fun k H => pBin .lss k (.sc (.int .i64 0)) fun b => pCond b (F H) (bodyHV (PR n β) tI _ F todo k H K)) = res
  rw [fadrs_ptr, hpath, Nat.zero_add, ldT hld, PR_call (vs := [.agg (mkL l k c).1, .sc (.int .i64 k)]) hhe.1 (vcons (Vw_agg _ hfc) (vcons (Vw_sc _ _) vnil)) (hhe.2 tI c k hwc h0 (by omega)), instT_sc, List.append_nil]
  simp only
  rw [lss64, cond_b, if_neg (by simp; omega)]
  exact body_hv cells hfl todo (off + w) (Q ++ (mkL l k c).1) R _ H K hrest (by simp [hq, hl', hcl]) hwR (by omega) (by omega) (by rw [List.append_assoc]; exact hc) hH h
theorem mkL_fl : ∀ (cs : List AV) (fs : List MF) (k : Int), wfL fs cs → fs.all isV = true → (mkL fs k cs).1.all isFl = true
 | [], fs, k, _, _ => by simp [mkL]
 | c :: cs, [], k, hw, _ => absurd rfl hw.1
 | c :: cs, f :: fs, k, hw, hv => by
  obtain ⟨h1, h2⟩ := wfL_cons.1 hw
  rw [List.all_cons, Bool.and_eq_true] at hv
  rw [mkL_cons, List.all_cons, mkL_fl cs fs _ h2 hv.2, Bool.and_true]
  cases c with
  | sc v => cases f <;> first | exact h1 | (exfalso; simpa [isV] using hv.1) | exact h1.elim
  | ro m cells => cases f <;> first | rfl | exact h1.elim
  | _ => exact h1.elim
theorem heldv_ok {tI f : Nat} {fvs : List FV} (hh : plainF f = false) (hf : FvH n 0 fvs) (hv : (flatV fvs).all isV = true)
  (hF : ∀ a b H kk, evalFn E0 (n + 1) AV f [a, b] H kk = pBox a H fun x H => bodyHV (PR n AV) tI x (fun H => kk (.sc (.int .i64 (-1))) H) fvs b H kk) : HeldV (n + 1) f (flatV fvs) := by
 refine ⟨hh, fun ty cs k hw h0 hb => ?_⟩
 have hfl := mkL_fl cs (flatV fvs) k hw hv
 rw [tree_def, hF, box_fl _ _ _ hfl]
 exact body_hv (mkL (flatV fvs) k cs).1 hfl fvs 0 [] cs k _ _ hf rfl hw h0 hb rfl rfl (fun X => rfl)
end fns
end Go.Proofs.YtdameggfgnpehaaGreatDoor.Abs
set_option linter.unusedVariables false
set_option linter.unusedSimpArgs false
namespace Go.Proofs.YtdameggfgnpehaaGreatDoor.Abs
open Go
def AtT (H : Heap) (y : AV) (N ty : Nat) (t : AV) : Prop := y = (instT ti0 E0.tp N ty t).1 ∧ N + nbT t ≤ H.length ∧ Lies H N (instT ti0 E0.tp N ty t).2
def AtL (H : Heap) (ys : List AV) (N : Nat) (ts : List Nat) (cs : List AV) : Prop := ys = (instL ti0 E0.tp N ts cs).1 ∧ N + nbL cs ≤ H.length ∧ Lies H N (instL ti0 E0.tp N ts cs).2
def Kept (H H' : Heap) (N m : Nat) : Prop := H.length ≤ H'.length ∧ ∀ (i : Nat) b, H[i]? = some b → (i < N ∨ N + m ≤ i) → H'[i]? = some b
theorem Lies.grow {H : Heap} {N : Nat} {B : List Blk} (h : Lies H N B) (X : List Blk) : Lies (H ++ X) N B := fun j b hj => by
 have := h j b hj
 rw [List.getElem?_append_left (List.getElem?_eq_some_iff.1 this).1]
 exact this
theorem Lies.kept {H H' : Heap} {N M m : Nat} {B : List Blk} (h : Lies H N B) (k : Kept H H' M m) (hd : N + B.length ≤ M ∨ M + m ≤ N) : Lies H' N B := fun j b hj => by
 have hlt := (List.getElem?_eq_some_iff.1 hj).1
 exact k.2 _ b (h j b hj) (by omega)
theorem AtT.grow {H : Heap} {y : AV} {N ty : Nat} {t : AV} (h : AtT H y N ty t) (X : List Blk) : AtT (H ++ X) y N ty t := ⟨h.1, by rw [List.length_append]; have := h.2.1; omega, h.2.2.grow X⟩
theorem AtL.grow {H : Heap} {ys : List AV} {N : Nat} {ts : List Nat} {cs : List AV} (h : AtL H ys N ts cs) (X : List Blk) : AtL (H ++ X) ys N ts cs := ⟨h.1, by rw [List.length_append]; have := h.2.1; omega, h.2.2.grow X⟩
theorem AtT.kept {H H' : Heap} {y : AV} {N ty M m : Nat} {t : AV} (h : AtT H y N ty t) (k : Kept H H' M m) (hd : N + nbT t ≤ M ∨ M + m ≤ N) : AtT H' y N ty t := ⟨h.1, Nat.le_trans h.2.1 k.1, h.2.2.kept k (by rw [inst_nb]; exact hd)⟩
theorem AtL.kept {H H' : Heap} {ys : List AV} {N M m : Nat} {ts : List Nat} {cs : List AV} (h : AtL H ys N ts cs) (k : Kept H H' M m) (hd : N + nbL cs ≤ M ∨ M + m ≤ N) : AtL H' ys N ts cs := ⟨h.1, Nat.le_trans h.2.1 k.1, h.2.2.kept k (by rw [instL_nb]; exact hd)⟩
theorem blk_kept {H H' : Heap} {i M m : Nat} {b : Blk} (h : H[i]? = some b) (k : Kept H H' M m) (hd : i < M ∨ M + m ≤ i) : H'[i]? = some b := k.2 i b h hd
theorem AtL.cons {H : Heap} {ys : List AV} {N t : Nat} {ts : List Nat} {c : AV} {cs : List AV} (h : AtL H ys N (t :: ts) (c :: cs)) : ∃ y ys', ys = y :: ys' ∧ AtT H y N t c ∧ AtL H ys' (N + nbT c) ts cs := by
 obtain ⟨h1, h2, h3⟩ := h
 have h2 : N + (nbT c + nbL cs) ≤ H.length := h2
 have e : instL ti0 E0.tp N (t :: ts) (c :: cs) = ((instT ti0 E0.tp N t c).1 :: (instL ti0 E0.tp (N + nbT c) ts cs).1, (instT ti0 E0.tp N t c).2 ++ (instL ti0 E0.tp (N + nbT c) ts cs).2) := by
  rw [instL, inst_nb]
  rfl
 rw [e] at h1 h3
 refine ⟨_, _, h1, ⟨rfl, by omega, h3.left⟩, ⟨rfl, by omega, ?_⟩⟩
 have := h3.right
 rwa [inst_nb] at this
theorem AtL.nil {H : Heap} {ys : List AV} {N : Nat} {ts : List Nat} (h : AtL H ys N ts []) : ys = [] := h.1
theorem AtT.sc {H : Heap} {y : AV} {N ty : Nat} {v : Value} (h : AtT H y N ty (.sc v)) : y = .sc v := h.1
theorem AtT.agg {H : Heap} {y : AV} {N ty : Nat} {cs : List AV} {cty : List Nat} (h : AtT H y N ty (.agg cs)) (hty : ∃ i, ti0 ty = some i ∧ i.cty = cty) : ∃ ys, y = .agg ys ∧ AtL H ys N cty cs := by
 obtain ⟨i, hi, rfl⟩ := hty
 obtain ⟨h1, h2, h3⟩ := h
 rw [instT_agg, hi, Option.getD_some] at h1 h3
 exact ⟨_, h1, rfl, h2, h3⟩
theorem AtT.vw {H : Heap} {y : AV} {N ty : Nat} {t : AV} (h : AtT H y N ty t) (hok : okW ti0 E0.tp 8 ty t) : Vw H y t := fun X => by
 rw [h.1]
 exact view_inst 8 ty t N (okW_okTr 8 ty t hok) (h.2.2.grow X)
theorem AtL.vw {H : Heap} {ys : List AV} {N : Nat} {ts : List Nat} {cs : List AV} (h : AtL H ys N ts cs) (hok : okLW (okW ti0 E0.tp 7) ts cs) : Vw H (.agg ys) (.agg cs) := fun X => by
 rw [h.1, viewV_agg, view_instL (fun ty t N => view_inst 7 ty t N) cs ts N (okLW_okL (okW_okTr 7) hok) (h.2.2.grow X)]
 rfl
theorem AtL.leaf {H : Heap} {ys : List AV} {N : Nat} {ts : List Nat} {cs : List AV} (h : AtL H ys N ts cs) (hf : cs.all isFl = true) : ys.all isLeaf = true := by
 rw [h.1]
 exact instL_leaf _ _ _ hf
theorem AtL.len {H : Heap} {ys : List AV} {N : Nat} {ts : List Nat} {cs : List AV} (h : AtL H ys N ts cs) : ys.length = cs.length := by rw [h.1, instL_len]
theorem okLW_mk {d : Nat} (hd : ∀ ty x f k, okW ti0 E0.tp d ty x → okW ti0 E0.tp d ty (mkF f k x).1) : ∀ (cs : List AV) (ts : List Nat) (fs : List MF) (k : Int), okLW (okW ti0 E0.tp d) ts cs → okLW (okW ti0 E0.tp d) ts (mkL fs k cs).1
 | [], ts, fs, k, h => by simpa [mkL] using h
 | c :: cs, [], fs, k, h => h.elim
 | c :: cs, t :: ts, fs, k, h => ⟨hd _ _ _ _ h.1, okLW_mk hd cs ts fs.tail _ h.2⟩
theorem okW_mk : ∀ (d ty : Nat) (x : AV) (f : MF) (k : Int), okW ti0 E0.tp d ty x → okW ti0 E0.tp d ty (mkF f k x).1
 | 0, _, _, _, _, h => h
 | d + 1, ty, x, f, k, h => by
  cases x with
  | sc v => cases f <;> trivial
  | ro n cells =>
   cases f with
   | sub fs =>
    obtain ⟨i, j, h1, h2, h3, h4⟩ := h
    exact ⟨i, j, h1, h2, by rw [mkL_len]; exact h3, okLW_mk (okW_mk d) _ _ _ _ h4⟩
   | _ => exact h
  | _ => exact h
theorem okLW_mk7 {cs : List AV} {ts : List Nat} (fs : List MF) (k : Int) (h : okLW (okW ti0 E0.tp 7) ts cs) : okLW (okW ti0 E0.tp 7) ts (mkL fs k cs).1 := okLW_mk (okW_mk 7) cs ts fs k h
section steps
variable {β : Type} {n : Nat} {H : Heap} {r : Option β}
theorem lm_tree {ty f : Nat} {args vs : List AV} {t : AV} {K : AV → Heap → Option β} (hh : plainF f = false) (hv : args.mapM (viewV H 8) = some vs) (ht : tree E0 n ty f vs = some t) (h : ∀ y X N, N = H.length → AtT (H ++ X) y N ty t → K y (H ++ X) = r) : (PR n β).call ty (.fn f [] []) args H (fun x H => K x H) = r := by
 rw [PR_call hh hv ht]
 exact h _ _ _ rfl ⟨rfl, by rw [List.length_append, inst_nb]; exact Nat.le_refl _, Lies_end _ _⟩
theorem lm_tup {ty f : Nat} {args vs cs : List AV} {ts : List Nat} {K : AV → Heap → Option β} (hh : plainF f = false) (hv : args.mapM (viewV H 8) = some vs) (ht : tree E0 n ty f vs = some (.tup cs)) (hts : E0.tp ty = some ts) (h : ∀ ys X N, N = H.length → AtL (H ++ X) ys N ts cs → K (.tup ys) (H ++ X) = r) : (PR n β).call ty (.fn f [] []) args H (fun x H => K x H) = r := by
 rw [PR_call hh hv ht, instT_tup, hts, Option.getD_some]
 exact h _ _ _ rfl ⟨rfl, by rw [List.length_append, instL_nb]; exact Nat.le_refl _, Lies_end _ _⟩
theorem lm_agg {ty f : Nat} {args vs cs : List AV} {cty : List Nat} {K : AV → Heap → Option β} (hh : plainF f = false) (hv : args.mapM (viewV H 8) = some vs) (ht : tree E0 n ty f vs = some (.agg cs)) (hty : ∃ i, ti0 ty = some i ∧ i.cty = cty) (h : ∀ ys X N, N = H.length → AtL (H ++ X) ys N cty cs → K (.agg ys) (H ++ X) = r) : (PR n β).call ty (.fn f [] []) args H (fun x H => K x H) = r := by
 obtain ⟨i, hi, rfl⟩ := hty
 rw [PR_call hh hv ht, instT_agg, hi, Option.getD_some]
 exact h _ _ _ rfl ⟨rfl, by rw [List.length_append, instL_nb]; exact Nat.le_refl _, Lies_end _ _⟩
theorem lm_put {w : Nat} {z ys : List AV} {K : AV → Heap → Option β} (hz : z.length = w) (hy : ys.length = w) (hl : ys.all isLeaf = true) (h : ∀ i, i = H.length → (H ++ [⟨ys, true, true⟩])[i]? = some ⟨ys, true, true⟩ → K (.ptr i 0) (H ++ [⟨ys, true, true⟩]) = r) :
  pNew z H (fun t H => pStore w t (.agg ys) H fun H => K t H) = r := by
 have hg : (H ++ [(⟨z, true, true⟩ : Blk)])[H.length]? = some ⟨z, true, true⟩ := get_at H _ []
 have hc : cellsA (.agg ys) = some ys := by
  show (if ys.all isLeaf then some ys else none) = _
  rw [if_pos hl]
 show pStore w (.ptr H.length 0) (.agg ys) (H ++ [⟨z, true, true⟩]) _ = r
 rw [st_at w H.length 0 _ ⟨z, true, true⟩ ys _ _ hg hc hy (by rw [hz]; omega) rfl]
 have hs : splice z 0 ys = ys := by
  unfold splice
  rw [List.take_zero, List.nil_append, List.drop_of_length_le (by rw [hz, hy]; omega), List.append_nil]
 simp only [hs, set_at]
 exact h _ rfl (get_at H _ [])
theorem cut_at {N : Nat} {B : List Blk} (h1 : N + B.length ≤ H.length) (h2 : Lies H N B) : ∃ A C : Heap, A.length = N ∧ H = A ++ (B ++ C) := by
 refine ⟨H.take N, H.drop (N + B.length), by rw [List.length_take]; omega, ?_⟩
 have e : (H.drop N).take B.length = B := by
  apply List.ext_getElem?
  intro j
  by_cases hj : j < B.length
  ·rw [List.getElem?_take_of_lt hj, List.getElem?_drop]
   have hb : B[j]? = some (B[j]) := List.getElem?_eq_getElem hj
   rw [hb, h2 j _ hb]
  ·rw [List.getElem?_eq_none (by rw [List.length_take]; omega), List.getElem?_eq_none (by omega)]
 conv => lhs; rw [← List.take_append_drop N H, ← List.take_append_drop B.length (H.drop N), e, List.drop_drop]
theorem kept_at {A B B' C X : Heap} (hl : B'.length = B.length) : Kept (A ++ (B ++ C)) (A ++ (B' ++ (C ++ X))) A.length B.length := by
 refine ⟨by simp only [List.length_append, hl]; omega, fun i b h hd => ?_⟩
 rcases hd with hd | hd
 ·rw [List.getElem?_append_left hd] at h ⊢
  exact h
 ·rw [List.getElem?_append_right (by omega), List.getElem?_append_right (by omega)] at h ⊢
  rw [hl, List.getElem?_append_left (List.getElem?_eq_some_iff.1 h).1]
  exact h
theorem lm_mark {tI g ty N : Nat} {fs : List MF} {t : AV} {y : AV} {k : Int} {K : AV → Heap → Option β} (hmk : MarkOk n g ty fs) (hro : ∃ len cells, t = .ro len cells) (ha : AtT H y N ty t) (hw : wfF (.sub fs) t) (h0 : 0 ≤ k) (hb : k + cntF (.sub fs) t ≤ 4611686018427387904)
  (h : ∀ H', AtT H' y N ty (mkF (.sub fs) k t).1 → Kept H H' N (nbT t) → K (.sc (.int .i64 (k + cntF (.sub fs) t))) H' = r) : (PR n β).call tI (.fn g [] []) [y, .sc (.int .i64 k)] H (fun x H => K x H) = r := by
 obtain ⟨len, cells, rfl⟩ := hro
 obtain ⟨rfl, h2, h3⟩ := ha
 have hnb : ∀ M, (instT ti0 E0.tp M ty (.ro len cells)).2.length = nbT (.ro len cells) := fun M => inst_nb _ _ _
 obtain ⟨A, C, rfl, rfl⟩ := cut_at (by rw [hnb]; exact h2) h3
 rw [PR_hm hmk.1 hmk.2.1]
 refine hmk.2.2.2 len cells k hw h0 hb β A C _ r fun X => ?_
 rw [mkF_cnt]
 have hl : (instT ti0 E0.tp A.length ty (mkF (.sub fs) k (.ro len cells)).1).2.length = (instT ti0 E0.tp A.length ty (.ro len cells)).2.length := by rw [inst_nb, inst_nb, mkF_nb]
 refine h _ ⟨(mk_ro_same hmk k len cells A.length).symm, ?_, ?_⟩ ?_
 ·rw [mkF_nb]
  simp only [List.length_append, inst_nb, mkF_nb]
  omega
 ·have := Lies_in A (instT ti0 E0.tp A.length ty (mkF (.sub fs) k (.ro len cells)).1).2 (C ++ X)
  rwa [List.append_assoc] at this
 ·rw [← hnb A.length]
  exact kept_at hl
theorem lm_markv {tI g N : Nat} {cty : List Nat} {fs : List MF} {cs ys : List AV} {k : Int} {K : AV → Heap → Option β} (hmk : MarkV n g cty fs) (hv : fs.all isV = true) (ha : AtL H ys N cty cs) (hw : wfL fs cs) (h0 : 0 ≤ k) (hb : k + cntL fs cs ≤ 4611686018427387904)
  (h : ∀ H', AtL H' ys N cty (mkL fs k cs).1 → Kept H H' N (nbL cs) → K (.sc (.int .i64 (k + cntL fs cs))) H' = r) : (PR n β).call tI (.fn g [] []) [.agg ys, .sc (.int .i64 k)] H (fun x H => K x H) = r := by
 obtain ⟨rfl, h2, h3⟩ := ha
 have hnb : ∀ M, (instL ti0 E0.tp M cty cs).2.length = nbL cs := fun M => instL_nb _ _ _
 obtain ⟨A, C, rfl, rfl⟩ := cut_at (by rw [hnb]; exact h2) h3
 rw [PR_hm hmk.1 hmk.2.1]
 refine hmk.2.2 cs k β A C _ r hw h0 hb fun X => ?_
 rw [mkL_cnt]
 have hl : (instL ti0 E0.tp A.length cty (mkL fs k cs).1).2.length = (instL ti0 E0.tp A.length cty cs).2.length := by rw [instL_nb, instL_nb, mkL_nb]
 refine h _ ⟨(mkL_same cs fs k A.length cty hv hw).symm, ?_, ?_⟩ ?_
 ·rw [mkL_nb]
  simp only [List.length_append, instL_nb, mkL_nb]
  omega
 ·have := Lies_in A (instL ti0 E0.tp A.length cty (mkL fs k cs).1).2 (C ++ X)
  rwa [List.append_assoc] at this
 ·rw [← hnb A.length]
  exact kept_at hl
theorem lm_held {tI g : Nat} {fs : List MF} {t : AV} {y : AV} {k : Int} {K : AV → Heap → Option β} (hhe : HeldOk n g fs) (hro : ∃ len cells, t = .ro len cells) (hv : Vw H y (mkF (.sub fs) k t).1) (hw : wfF (.sub fs) t) (h0 : 0 ≤ k) (hb : k + cntF (.sub fs) t ≤ 4611686018427387904)
  {F : Heap → Option β} (h : K (.sc (.int .i64 (k + cntF (.sub fs) t))) H = r) : (PR n β).call tI (.fn g [] []) [y, .sc (.int .i64 k)] H (fun t H => pBin .lss t (.sc (.int .i64 0)) fun t' => pCond t' (F H) (K t H)) = r := by
 obtain ⟨len, cells, rfl⟩ := hro
 refine lw_sc hhe.1 (vcons hv (vcons (Vw_sc _ _) vnil)) (hhe.2 tI len cells k hw h0 hb) ?_
 rw [mkF_cnt, lss64, cond_b, if_neg (by simp; omega)]
 exact h
theorem lm_heldv {tI g : Nat} {fs : List MF} {cs : List AV} {y : AV} {k : Int} {K : AV → Heap → Option β} (hhe : HeldV n g fs) (hv : Vw H y (.agg (mkL fs k cs).1)) (hw : wfL fs cs) (h0 : 0 ≤ k) (hb : k + cntL fs cs ≤ 4611686018427387904)
  {F : Heap → Option β} (h : K (.sc (.int .i64 (k + cntL fs cs))) H = r) : (PR n β).call tI (.fn g [] []) [y, .sc (.int .i64 k)] H (fun t H => pBin .lss t (.sc (.int .i64 0)) fun t' => pCond t' (F H) (K t H)) = r := by
 refine lw_sc hhe.1 (vcons hv (vcons (Vw_sc _ _) vnil)) (hhe.2 tI cs k hw h0 hb) ?_
 rw [mkL_cnt, lss64, cond_b, if_neg (by simp; omega)]
 exact h
theorem lm_gf {m : (AV → Heap → Option β) → Option β} {k : AV → Heap → Option β} (h : m k = r) : pGuard (.sc (.bool false)) false H m k = r := h
theorem lm_pk {v : Value} {K : AV → Option β} (h : K (.sc v) = r) : pPick (.sc (.bool false)) (.sc (.bool true)) (.sc v) (fun t => K t) = r := h
theorem lm_not {b : Bool} {K : AV → Option β} (h : K (.sc (.bool (!b))) = r) : pUn .not (.sc (.bool b)) (fun t => K t) = r := h
theorem lm_cf {A K : Option β} (h : K = r) : pCond (.sc (.bool false)) A K = r := h
theorem lm_eq {ty f : Nat} {args vs : List AV} {K : AV → Heap → Option β} (hh : plainF f = false) (hv : args.mapM (viewV H 8) = some vs) (ht : tree E0 n ty f vs = some (.sc (.bool true))) (h : K (.sc (.bool true)) H = r) : (PR n β).call ty (.fn f [] []) args H (fun t H => K t H) = r := lw_sc hh hv ht h
theorem lm_neB {b : Bool} {K : AV → Option β} (h : K (.sc (.bool false)) = r) : pBinB .neq (.sc (.bool b)) (.sc (.bool b)) (fun t => K t) = r := by
 rw [neqB]
 cases b <;> exact h
theorem lm_neI {z : Int} {K : AV → Option β} (h : K (.sc (.bool false)) = r) : pBin .neq (.sc (.int .i64 z)) (.sc (.int .i64 z)) (fun t => K t) = r := by
 rw [neq64, bne_self_eq_false]
 exact h
theorem lm_neg {z : Int} {K : AV → Option β} (h0 : 0 ≤ z) (h : K (.sc (.bool false)) = r) : pBin .lss (.sc (.int .i64 z)) (.sc (.int .i64 0)) (fun t => K t) = r := by
 rw [lss64, show decide (z < 0) = false from by simp; omega]
 exact h
theorem lm_ex {vs : List AV} {i : Nat} {v : AV} {K : AV → Option β} (hi : vs[i]? = some v) (h : K v = r) : pExtr (.tup vs) i (fun t => K t) = r := by
 simp only [pExtr, hi, Option.bind_some]
 exact h
end steps
end Go.Proofs.YtdameggfgnpehaaGreatDoor.Abs
set_option linter.unusedVariables false
set_option linter.unusedSimpArgs false
namespace Go.Proofs.YtdameggfgnpehaaGreatDoor.Abs
open Go
variable {β : Type} {H : Heap} {r : Option β}
theorem lm_store {i w : Nat} {z ys : List AV} {K : Heap → Option β} (hi : H[i]? = some ⟨z, true, true⟩) (hz : z.length = w) (hy : ys.length = w) (hl : ys.all isLeaf = true) (h : ∀ H', H'[i]? = some ⟨ys, true, true⟩ → Kept H H' i 1 → K H' = r) :
  pStore w (.ptr i 0) (.agg ys) H (fun H => K H) = r := by
 have hc : cellsA (.agg ys) = some ys := by
  show (if ys.all isLeaf then some ys else none) = _
  rw [if_pos hl]
 have li : i < H.length := (List.getElem?_eq_some_iff.1 hi).1
 rw [st_at w i 0 _ ⟨z, true, true⟩ ys _ _ hi hc hy (by show 0 + w ≤ z.length; omega) rfl]
 have hs : splice z 0 ys = ys := by
  unfold splice
  rw [List.take_zero, List.nil_append, List.drop_of_length_le (by rw [hz, hy]; omega), List.append_nil]
 simp only [hs]
 refine h _ (List.getElem?_set_self li) ⟨by rw [List.length_set]; exact Nat.le_refl _, fun j b hj hd => ?_⟩
 rw [List.getElem?_set_ne (by omega)]
 exact hj
end Go.Proofs.YtdameggfgnpehaaGreatDoor.Abs
set_option linter.unusedVariables false
set_option linter.unusedSimpArgs false
set_option maxRecDepth 100000
namespace Go.Proofs.YtdameggfgnpehaaGreatDoor.Abs
open Go
theorem tyByteS : ∃ i j, ti0 43 = some i ∧ ti0 i.elem = some j ∧ j.size = 1 ∧ j.cty.length = 1 := ⟨_, _, rfl, rfl, rfl, rfl⟩
theorem toF_ByteS (n : Nat) (hn : 1048576 < n) (s : ByteArray) (h : s.size ≤ 1048576) : tree E0 (n + 1) 43 69 [bytesC s] = some (bytesC s) := by
 have e : s.data.toList.length = s.size := by simp
 have h0 := to_flat (n := n) (bytes := 1) (fun b : UInt8 => .int .u8 b.toNat) (.sc (.int .u8 0)) (fun _ => rfl) tyByteS (fun k => f69_l0 (PR n AV) n k) (fun k m a o i H => rfl) (fun a H k => f69_eq n a H k) (by decide) s.data.toList (by rw [e]; exact h) hn
 rw [e] at h0
 exact h0
theorem eqF_ByteS (n : Nat) (hn : 1048576 < n) (tb : Nat) (s : ByteArray) (h : s.size ≤ 1048576) : tree E0 (n + 1) tb 71 [bytesC s, bytesC s] = some (.sc (.bool true)) := by
 have e : s.data.toList.length = s.size := by simp
 have h0 := eq_flat (n := n) (fun b : UInt8 => .int .u8 b.toNat) (fun x γ k => ne_u8 _ k) (fun k => f71_l0 (PR n AV) n k) (fun k m a b i H => rfl) (fun a b H k => f71_eq n a b H k) s.data.toList (by rw [e]; exact h) hn tb
 rw [e] at h0
 exact h0
theorem szF_ByteS (n : Nat) (ty : Nat) (s : ByteArray) (hmax : s.size ≤ 9223372036854775807) (left : Int) (h0 : 0 ≤ left) (h1 : left ≤ 1048576) : tree E0 (n + 1) ty 67 [bytesC s, .sc (.int .i64 left)] = some (.sc (.int .i64 (szR s.size left))) :=
 sz_len (n := n) (fun a b H k => f67_eq n a b H k) s.size _ hmax left h0 h1 ty
theorem tyIntS : ∃ i j, ti0 26 = some i ∧ ti0 i.elem = some j ∧ j.size = 1 ∧ j.cty.length = 1 := ⟨_, _, rfl, rfl, rfl, rfl⟩
theorem toF_IntS (n : Nat) (hn : 1048576 < n) (s : List Int) (h : s.length ≤ 1048576) : tree E0 (n + 1) 26 61 [intsC s] = some (intsC s) :=
 to_flat (n := n) (bytes := 8) (fun z : Int => .int .i64 z) (.sc (.int .i64 0)) (fun _ => rfl) tyIntS (fun k => f61_l0 (PR n AV) n k) (fun k m a o i H => rfl) (fun a H k => f61_eq n a H k) (by decide) s h hn
theorem eqF_IntS (n : Nat) (hn : 1048576 < n) (tb : Nat) (s : List Int) (h : s.length ≤ 1048576) : tree E0 (n + 1) tb 63 [intsC s, intsC s] = some (.sc (.bool true)) :=
 eq_flat (n := n) (fun z : Int => .int .i64 z) (fun x γ k => ne_int _ k) (fun k => f63_l0 (PR n AV) n k) (fun k m a b i H => rfl) (fun a b H k => f63_eq n a b H k) s h hn tb
theorem szF_IntS (n : Nat) (ty : Nat) (s : List Int) (hmax : s.length ≤ 9223372036854775807) (left : Int) (h0 : 0 ≤ left) (h1 : left ≤ 1048576) : tree E0 (n + 1) ty 59 [intsC s, .sc (.int .i64 left)] = some (.sc (.int .i64 (szR s.length left))) :=
 sz_len (n := n) (fun a b H k => f59_eq n a b H k) s.length _ hmax left h0 h1 ty
structure MsgV where
 fTopic : ByteArray
 fBody : ByteArray
 fQos : Int
 fRetain : Bool
def encMsg (x : MsgV) : List AV := .sc (.string x.fTopic) :: bytesC x.fBody :: .sc (.int .i64 x.fQos) :: .sc (.bool x.fRetain) :: []
def wtMsg (x : MsgV) : Nat := x.fTopic.size + (x.fBody.size + 0)
def okMsg (x : MsgV) : Prop := okS x.fTopic ∧ okS x.fBody ∧ okI x.fQos ∧ True
theorem lenMsg (x : MsgV) : (encMsg x).length = 4 := rfl
theorem flMsg (x : MsgV) : (encMsg x).all isFl = true := rfl
def ctyMsg : List Nat := [9, 43, 3, 4]
theorem tyMsg : ∃ i, ti0 49 = some i ∧ i.cty = ctyMsg := ⟨_, rfl, rfl⟩
theorem okWMsg (d : Nat) (x : MsgV) : okLW (okW ti0 E0.tp (d + 2)) ctyMsg (encMsg x) := ⟨trivial, ⟨okW_bytes (d := d + 0) tyByteS x.fBody, ⟨trivial, ⟨trivial, trivial⟩⟩⟩⟩
theorem okT_Msg {n : Nat} {cs : List AV} (h : okT ti0 n 45 cs) : ∃ x : MsgV, cs = encMsg x ∧ okMsg x := by
 obtain ⟨m, hf⟩ := okT_struct (fs := [(0, 9), (1, 43), (2, 3), (3, 4)]) ⟨_, rfl, rfl, rfl, rfl, rfl, rfl, rfl⟩ h
 obtain ⟨a0, b0, rfl, h0, hf⟩ := hf
 obtain ⟨v0, rfl, k0⟩ := okT_str' h0
 obtain ⟨a1, b1, rfl, h1, hf⟩ := hf
 obtain ⟨v1, rfl, k1⟩ := okT_bytes' ⟨_, rfl, rfl, rfl, rfl, rfl, rfl⟩ h1
 obtain ⟨a2, b2, rfl, h2, hf⟩ := hf
 obtain ⟨v2, rfl, k2⟩ := okT_int' h2
 obtain ⟨a3, b3, rfl, h3, hf⟩ := hf
 obtain ⟨v3, rfl⟩ := okT_bool' h3
 subst hf
 exact ⟨⟨v0, v1, v2, v3⟩, rfl, k0, k1, k2, trivial⟩
def zzMsg : List AV := [(.sc (.string ⟨#[]⟩)), .nl, (.sc (.int .i64 0)), (.sc (.bool false))]
theorem toF_Msg (n : Nat) (hn : 1048576 < n) (x : MsgV) (h : wtMsg x ≤ 1048576) : tree E0 (n + 2) 49 22 [.agg (encMsg x)] = some (.agg (encMsg x)) := by
 rw [tree_def, f22_eq, f22]
 simp only [PR_box, PR_new, PR_fadr, PR_load, PR_store, pNew]
 rw [box_fl _ _ _ (flMsg x)]
 simp only [List.length_nil, List.nil_append, List.length_cons, List.cons_append, Nat.zero_add, Nat.reduceAdd]
 refine st_sc (T := ctyMsg) (C := encMsg x) (Z := zzMsg) (v := .string x.fTopic) (o' := 1) rfl rfl rfl rfl rfl ?_
 refine st_ro (o' := 2) rfl rfl rfl rfl rfl (toF_ByteS (n + 0) (by omega) x.fBody (by unfold wtMsg at h; omega)) rfl ?_
 refine st_sc (v := .int .i64 x.fQos) (o' := 3) rfl rfl rfl rfl rfl ?_
 refine st_sc (v := .bool x.fRetain) (o' := 4) rfl rfl rfl rfl rfl ?_
 exact st_end rfl rfl rfl (flMsg x) tyMsg (okWMsg 5 x)
theorem eqF_Msg (n : Nat) (hn : 1048576 < n) (tb : Nat) (x : MsgV) (h : wtMsg x ≤ 1048576) : tree E0 (n + 2) tb 24 [.agg (encMsg x), .agg (encMsg x)] = some (.sc (.bool true)) := by
 rw [tree_def, f24_eq, f24]
 simp only [PR_box, PR_fadr, PR_load, PR_bin, PR_binB, PR_un, PR_cond]
 rw [box_fl _ _ _ (flMsg x), box_fl _ _ _ (flMsg x)]
 simp only [List.length_nil, List.nil_append, List.length_cons, List.cons_append, Nat.zero_add, Nat.reduceAdd]
 refine eq_sc (v := .string x.fTopic) rfl rfl (fun k => ne_str _ k) ?_
 refine eq_ro rfl rfl rfl (eqF_ByteS (n + 0) (by omega) _ x.fBody (by unfold wtMsg at h; omega)) ?_
 refine eq_sc (v := .int .i64 x.fQos) rfl rfl (fun k => ne_int _ k) ?_
 refine eq_b (b := x.fRetain) rfl rfl ?_
 rfl
theorem szF_Msg (n : Nat) (hn : 1048576 < n) (ty : Nat) (x : MsgV) (hx : okMsg x) (left : Int) (h0 : 0 ≤ left) (h1 : left ≤ 1048576) : tree E0 (n + 2) ty 20 [.agg (encMsg x), .sc (.int .i64 left)] = szA (wtMsg x) left := by
 obtain ⟨k0, k1, _, _⟩ := hx
 unfold wtMsg
 rw [tree_def, f20_eq, f20]
 simp only [PR_box, PR_fadr, PR_load, PR_lenS, PR_bin, PR_cond]
 rw [box_fl _ _ _ (flMsg x)]
 simp only [List.length_nil, List.nil_append, List.length_cons, List.cons_append, Nat.zero_add, Nat.reduceAdd]
 refine sz_str (s := x.fTopic) rfl h0 h1 k0 rfl fun h0 h1 => ?_
 refine sz_ro rfl h0 h1 rfl (szF_ByteS (n + 0) _ x.fBody k1 _ h0 h1) rfl fun h0 h1 => ?_
 exact sz_end h0
theorem tyMsgS : ∃ i j, ti0 31 = some i ∧ ti0 i.elem = some j ∧ j.size = 4 ∧ j.cty = ctyMsg := ⟨_, _, rfl, rfl, rfl, rfl⟩
theorem toF_MsgS (n : Nat) (hn : 1048576 < n) (l : List MsgV) (h : wtL wtMsg l ≤ 1048576) : tree E0 (n + 3) 31 91 [rowsC encMsg l] = some (rowsC encMsg l) := by
 have e := wtL_eq wtMsg l
 exact to_slice (n := n + 2) (w := 4) (bytes := 56) (cty := ctyMsg) encMsg [(.sc (.string ⟨#[]⟩)), .nl, (.sc (.int .i64 0)), (.sc (.bool false))] rfl lenMsg rfl (by decide) tyMsgS tyMsg flMsg rfl (fun k => f91_l0 (PR (n + 2) AV) (n + 2) k) (fun k m a o i H => rfl) (fun a H k => f91_eq (n + 2) a H k) (by decide) l (fun x hx => toF_Msg n hn x (by have := wtS_mem (wt := wtMsg) hx; omega)) (fun x _ => okWMsg 5 x) (by omega) (by omega)
theorem eqF_MsgS (n : Nat) (hn : 1048576 < n) (tb : Nat) (l : List MsgV) (h : wtL wtMsg l ≤ 1048576) : tree E0 (n + 3) tb 95 [rowsC encMsg l, rowsC encMsg l] = some (.sc (.bool true)) := by
 have e := wtL_eq wtMsg l
 exact eq_slice (n := n + 2) encMsg lenMsg (by decide) flMsg rfl (fun k => f95_l0 (PR (n + 2) AV) (n + 2) k) (fun k m a b i H => rfl) (fun a b H k => f95_eq (n + 2) a b H k) l (fun x hx => eqF_Msg n hn _ x (by have := wtS_mem (wt := wtMsg) hx; omega)) (by omega) (by omega) tb
theorem szF_MsgS (n : Nat) (hn : 1048576 < n) (ty : Nat) (l : List MsgV) (hmax : l.length ≤ 9223372036854775807) (hok : ∀ x ∈ l, okMsg x) (left : Int) (h0 : 0 ≤ left) (h1 : left ≤ 1048576) : tree E0 (n + 3) ty 87 [rowsC encMsg l, .sc (.int .i64 left)] = some (.sc (.int .i64 (szR (wtL wtMsg l) left))) :=
 sz_slice (n := n + 2) encMsg wtMsg lenMsg (by decide) flMsg rfl (fun k => f87_l0 (PR (n + 2) AV) (n + 2) k) (fun k m a l i H => rfl) (fun a b H k => f87_eq (n + 2) a b H k) l (fun x hx left h0 h1 => szF_Msg n hn _ x (hok x hx) left h0 h1) hmax (by omega) left h0 h1 ty
structure FlightV where
 fId : Int
 fM : MsgV
 fSt : Int
def encFlight (x : FlightV) : List AV := .sc (.int .i64 x.fId) :: (encMsg x.fM ++ .sc (.int .i64 x.fSt) :: [])
def wtFlight (x : FlightV) : Nat := wtMsg x.fM + 0
def okFlight (x : FlightV) : Prop := okI x.fId ∧ okMsg x.fM ∧ okI x.fSt
theorem lenFlight (x : FlightV) : (encFlight x).length = 6 := rfl
theorem flFlight (x : FlightV) : (encFlight x).all isFl = true := rfl
def ctyFlight : List Nat := [3, 9, 43, 3, 4, 3]
theorem tyFlight : ∃ i, ti0 116 = some i ∧ i.cty = ctyFlight := ⟨_, rfl, rfl⟩
theorem okWFlight (d : Nat) (x : FlightV) : okLW (okW ti0 E0.tp (d + 2)) ctyFlight (encFlight x) := ⟨trivial, okLW_append (ts := ctyMsg) (ts' := [3]) (okWMsg (d + 0) x.fM) ⟨trivial, trivial⟩⟩
theorem okT_Flight {n : Nat} {cs : List AV} (h : okT ti0 n 159 cs) : ∃ x : FlightV, cs = encFlight x ∧ okFlight x := by
 obtain ⟨m, hf⟩ := okT_struct (fs := [(0, 3), (1, 45), (5, 3)]) ⟨_, rfl, rfl, rfl, rfl, rfl, rfl, rfl⟩ h
 obtain ⟨a0, b0, rfl, h0, hf⟩ := hf
 obtain ⟨v0, rfl, k0⟩ := okT_int' h0
 obtain ⟨a1, b1, rfl, h1, hf⟩ := hf
 obtain ⟨v1, rfl, k1⟩ := okT_Msg h1
 obtain ⟨a2, b2, rfl, h2, hf⟩ := hf
 obtain ⟨v2, rfl, k2⟩ := okT_int' h2
 subst hf
 exact ⟨⟨v0, v1, v2⟩, rfl, k0, k1, k2⟩
def zzFlight : List AV := [(.sc (.int .i64 0)), (.sc (.string ⟨#[]⟩)), .nl, (.sc (.int .i64 0)), (.sc (.bool false)), (.sc (.int .i64 0))]
theorem toF_Flight (n : Nat) (hn : 1048576 < n) (x : FlightV) (h : wtFlight x ≤ 1048576) : tree E0 (n + 3) 116 147 [.agg (encFlight x)] = some (.agg (encFlight x)) := by
 rw [tree_def, f147_eq, f147]
 simp only [PR_box, PR_new, PR_fadr, PR_load, PR_store, pNew]
 rw [box_fl _ _ _ (flFlight x)]
 simp only [List.length_nil, List.nil_append, List.length_cons, List.cons_append, Nat.zero_add, Nat.reduceAdd]
 refine st_sc (T := ctyFlight) (C := encFlight x) (Z := zzFlight) (v := .int .i64 x.fId) (o' := 1) rfl rfl rfl rfl rfl ?_
 refine st_agg (cty := ctyMsg) (cells := encMsg x.fM) (o' := 5) rfl rfl rfl rfl rfl (flMsg _) (toF_Msg (n + 0) (by omega) x.fM (by unfold wtFlight at h; omega)) tyMsg rfl (by decide) rfl ?_
 refine st_sc (v := .int .i64 x.fSt) (o' := 6) rfl rfl rfl rfl rfl ?_
 exact st_end rfl rfl rfl (flFlight x) tyFlight (okWFlight 5 x)
theorem eqF_Flight (n : Nat) (hn : 1048576 < n) (tb : Nat) (x : FlightV) (h : wtFlight x ≤ 1048576) : tree E0 (n + 3) tb 150 [.agg (encFlight x), .agg (encFlight x)] = some (.sc (.bool true)) := by
 rw [tree_def, f150_eq, f150]
 simp only [PR_box, PR_fadr, PR_load, PR_bin, PR_binB, PR_un, PR_cond]
 rw [box_fl _ _ _ (flFlight x), box_fl _ _ _ (flFlight x)]
 simp only [List.length_nil, List.nil_append, List.length_cons, List.cons_append, Nat.zero_add, Nat.reduceAdd]
 refine eq_sc (v := .int .i64 x.fId) rfl rfl (fun k => ne_int _ k) ?_
 refine eq_agg (cells := encMsg x.fM) rfl rfl rfl (flMsg _) (eqF_Msg (n + 0) (by omega) _ x.fM (by unfold wtFlight at h; omega)) ?_
 refine eq_sc (v := .int .i64 x.fSt) rfl rfl (fun k => ne_int _ k) ?_
 rfl
theorem szF_Flight (n : Nat) (hn : 1048576 < n) (ty : Nat) (x : FlightV) (hx : okFlight x) (left : Int) (h0 : 0 ≤ left) (h1 : left ≤ 1048576) : tree E0 (n + 3) ty 145 [.agg (encFlight x), .sc (.int .i64 left)] = szA (wtFlight x) left := by
 obtain ⟨_, k1, _⟩ := hx
 unfold wtFlight
 rw [tree_def, f145_eq, f145]
 simp only [PR_box, PR_fadr, PR_load, PR_lenS, PR_bin, PR_cond]
 rw [box_fl _ _ _ (flFlight x)]
 simp only [List.length_nil, List.nil_append, List.length_cons, List.cons_append, Nat.zero_add, Nat.reduceAdd]
 refine sz_agg (cells := encMsg x.fM) rfl h0 h1 rfl (flMsg _) (szF_Msg (n + 0) (by omega) _ x.fM k1 _ h0 h1) rfl fun h0 h1 => ?_
 exact sz_end h0
theorem tyFlightS : ∃ i j, ti0 30 = some i ∧ ti0 i.elem = some j ∧ j.size = 6 ∧ j.cty = ctyFlight := ⟨_, _, rfl, rfl, rfl, rfl⟩
theorem toF_FlightS (n : Nat) (hn : 1048576 < n) (l : List FlightV) (h : wtL wtFlight l ≤ 1048576) : tree E0 (n + 4) 30 90 [rowsC encFlight l] = some (rowsC encFlight l) := by
 have e := wtL_eq wtFlight l
 exact to_slice (n := n + 3) (w := 6) (bytes := 72) (cty := ctyFlight) encFlight [(.sc (.int .i64 0)), (.sc (.string ⟨#[]⟩)), .nl, (.sc (.int .i64 0)), (.sc (.bool false)), (.sc (.int .i64 0))] rfl lenFlight rfl (by decide) tyFlightS tyFlight flFlight rfl (fun k => f90_l0 (PR (n + 3) AV) (n + 3) k) (fun k m a o i H => rfl) (fun a H k => f90_eq (n + 3) a H k) (by decide) l (fun x hx => toF_Flight n hn x (by have := wtS_mem (wt := wtFlight) hx; omega)) (fun x _ => okWFlight 5 x) (by omega) (by omega)
theorem eqF_FlightS (n : Nat) (hn : 1048576 < n) (tb : Nat) (l : List FlightV) (h : wtL wtFlight l ≤ 1048576) : tree E0 (n + 4) tb 94 [rowsC encFlight l, rowsC encFlight l] = some (.sc (.bool true)) := by
 have e := wtL_eq wtFlight l
 exact eq_slice (n := n + 3) encFlight lenFlight (by decide) flFlight rfl (fun k => f94_l0 (PR (n + 3) AV) (n + 3) k) (fun k m a b i H => rfl) (fun a b H k => f94_eq (n + 3) a b H k) l (fun x hx => eqF_Flight n hn _ x (by have := wtS_mem (wt := wtFlight) hx; omega)) (by omega) (by omega) tb
theorem szF_FlightS (n : Nat) (hn : 1048576 < n) (ty : Nat) (l : List FlightV) (hmax : l.length ≤ 9223372036854775807) (hok : ∀ x ∈ l, okFlight x) (left : Int) (h0 : 0 ≤ left) (h1 : left ≤ 1048576) : tree E0 (n + 4) ty 86 [rowsC encFlight l, .sc (.int .i64 left)] = some (.sc (.int .i64 (szR (wtL wtFlight l) left))) :=
 sz_slice (n := n + 3) encFlight wtFlight lenFlight (by decide) flFlight rfl (fun k => f86_l0 (PR (n + 3) AV) (n + 3) k) (fun k m a l i H => rfl) (fun a b H k => f86_eq (n + 3) a b H k) l (fun x hx left h0 h1 => szF_Flight n hn _ x (hok x hx) left h0 h1) hmax (by omega) left h0 h1 ty
structure OutV where
 fLast : Int
 fFl : List FlightV
 fQ : List MsgV
def encOut (x : OutV) : List AV := .sc (.int .i64 x.fLast) :: rowsC encFlight x.fFl :: rowsC encMsg x.fQ :: []
def wtOut (x : OutV) : Nat := wtL wtFlight x.fFl + (wtL wtMsg x.fQ + 0)
def okOut (x : OutV) : Prop := okI x.fLast ∧ (x.fFl.length ≤ 9223372036854775807 ∧ ∀ z ∈ x.fFl, okFlight z) ∧ (x.fQ.length ≤ 9223372036854775807 ∧ ∀ z ∈ x.fQ, okMsg z)
theorem lenOut (x : OutV) : (encOut x).length = 3 := rfl
theorem flOut (x : OutV) : (encOut x).all isFl = true := rfl
def ctyOut : List Nat := [3, 30, 31]
theorem tyOut : ∃ i, ti0 33 = some i ∧ i.cty = ctyOut := ⟨_, rfl, rfl⟩
theorem okWOut (d : Nat) (x : OutV) : okLW (okW ti0 E0.tp (d + 3)) ctyOut (encOut x) := ⟨trivial, ⟨okW_rows (d := d + 2) lenFlight tyFlightS (okWFlight (d + 0)) x.fFl, ⟨okW_rows (d := d + 2) lenMsg tyMsgS (okWMsg (d + 0)) x.fQ, trivial⟩⟩⟩
theorem okT_Out {n : Nat} {cs : List AV} (h : okT ti0 n 25 cs) : ∃ x : OutV, cs = encOut x ∧ okOut x := by
 obtain ⟨m, hf⟩ := okT_struct (fs := [(0, 3), (1, 22), (2, 23)]) ⟨_, rfl, rfl, rfl, rfl, rfl, rfl, rfl⟩ h
 obtain ⟨a0, b0, rfl, h0, hf⟩ := hf
 obtain ⟨v0, rfl, k0⟩ := okT_int' h0
 obtain ⟨a1, b1, rfl, h1, hf⟩ := hf
 obtain ⟨v1, rfl, k1⟩ := okT_rows (ok := okFlight) ⟨_, rfl, rfl, rfl, rfl, rfl, rfl⟩ (fun n cs h => okT_Flight h) h1
 obtain ⟨a2, b2, rfl, h2, hf⟩ := hf
 obtain ⟨v2, rfl, k2⟩ := okT_rows (ok := okMsg) ⟨_, rfl, rfl, rfl, rfl, rfl, rfl⟩ (fun n cs h => okT_Msg h) h2
 subst hf
 exact ⟨⟨v0, v1, v2⟩, rfl, k0, k1, k2⟩
def zzOut : List AV := [(.sc (.int .i64 0)), .nl, .nl]
theorem toF_Out (n : Nat) (hn : 1048576 < n) (x : OutV) (h : wtOut x ≤ 1048576) : tree E0 (n + 5) 33 37 [.agg (encOut x)] = some (.agg (encOut x)) := by
 rw [tree_def, f37_eq, f37]
 simp only [PR_box, PR_new, PR_fadr, PR_load, PR_store, pNew]
 rw [box_fl _ _ _ (flOut x)]
 simp only [List.length_nil, List.nil_append, List.length_cons, List.cons_append, Nat.zero_add, Nat.reduceAdd]
 refine st_sc (T := ctyOut) (C := encOut x) (Z := zzOut) (v := .int .i64 x.fLast) (o' := 1) rfl rfl rfl rfl rfl ?_
 refine st_ro (o' := 2) rfl rfl rfl rfl rfl (toF_FlightS (n + 0) (by omega) x.fFl (by unfold wtOut at h; omega)) rfl ?_
 refine st_ro (o' := 3) rfl rfl rfl rfl rfl (toF_MsgS (n + 1) (by omega) x.fQ (by unfold wtOut at h; omega)) rfl ?_
 exact st_end rfl rfl rfl (flOut x) tyOut (okWOut 4 x)
theorem eqF_Out (n : Nat) (hn : 1048576 < n) (tb : Nat) (x : OutV) (h : wtOut x ≤ 1048576) : tree E0 (n + 5) tb 40 [.agg (encOut x), .agg (encOut x)] = some (.sc (.bool true)) := by
 rw [tree_def, f40_eq, f40]
 simp only [PR_box, PR_fadr, PR_load, PR_bin, PR_binB, PR_un, PR_cond]
 rw [box_fl _ _ _ (flOut x), box_fl _ _ _ (flOut x)]
 simp only [List.length_nil, List.nil_append, List.length_cons, List.cons_append, Nat.zero_add, Nat.reduceAdd]
 refine eq_sc (v := .int .i64 x.fLast) rfl rfl (fun k => ne_int _ k) ?_
 refine eq_ro rfl rfl rfl (eqF_FlightS (n + 0) (by omega) _ x.fFl (by unfold wtOut at h; omega)) ?_
 refine eq_ro rfl rfl rfl (eqF_MsgS (n + 1) (by omega) _ x.fQ (by unfold wtOut at h; omega)) ?_
 rfl
theorem szF_Out (n : Nat) (hn : 1048576 < n) (ty : Nat) (x : OutV) (hx : okOut x) (left : Int) (h0 : 0 ≤ left) (h1 : left ≤ 1048576) : tree E0 (n + 5) ty 35 [.agg (encOut x), .sc (.int .i64 left)] = szA (wtOut x) left := by
 obtain ⟨_, k1, k2⟩ := hx
 unfold wtOut
 rw [tree_def, f35_eq, f35]
 simp only [PR_box, PR_fadr, PR_load, PR_lenS, PR_bin, PR_cond]
 rw [box_fl _ _ _ (flOut x)]
 simp only [List.length_nil, List.nil_append, List.length_cons, List.cons_append, Nat.zero_add, Nat.reduceAdd]
 refine sz_ro rfl h0 h1 rfl (szF_FlightS (n + 0) (by omega) _ x.fFl k1.1 k1.2 _ h0 h1) rfl fun h0 h1 => ?_
 refine sz_ro rfl h0 h1 rfl (szF_MsgS (n + 1) (by omega) _ x.fQ k2.1 k2.2 _ h0 h1) rfl fun h0 h1 => ?_
 exact sz_end h0
structure SessV where
 fClient : ByteArray
 fBorn : Int
 fClean : Bool
 fConn : Int
 fGen : Int
 fO : OutV
 fIn : List Int
def encSess (x : SessV) : List AV := .sc (.string x.fClient) :: .sc (.int .i64 x.fBorn) :: .sc (.bool x.fClean) :: .sc (.int .i64 x.fConn) :: .sc (.int .i64 x.fGen) :: (encOut x.fO ++ intsC x.fIn :: [])
def wtSess (x : SessV) : Nat := x.fClient.size + (wtOut x.fO + (x.fIn.length + 0))
def okSess (x : SessV) : Prop := okS x.fClient ∧ okI x.fBorn ∧ True ∧ okI x.fConn ∧ okI x.fGen ∧ okOut x.fO ∧ (x.fIn.length ≤ 9223372036854775807 ∧ ∀ z ∈ x.fIn, okI z)
theorem lenSess (x : SessV) : (encSess x).length = 9 := rfl
theorem flSess (x : SessV) : (encSess x).all isFl = true := rfl
def ctySess : List Nat := [9, 3, 4, 3, 3, 3, 30, 31, 26]
theorem tySess : ∃ i, ti0 35 = some i ∧ i.cty = ctySess := ⟨_, rfl, rfl⟩
theorem okWSess (d : Nat) (x : SessV) : okLW (okW ti0 E0.tp (d + 3)) ctySess (encSess x) := ⟨trivial, ⟨trivial, ⟨trivial, ⟨trivial, ⟨trivial, okLW_append (ts := ctyOut) (ts' := [26]) (okWOut (d + 0) x.fO) ⟨okW_flat (d := d + 1) (fun z : Int => .int .i64 z) tyIntS x.fIn, trivial⟩⟩⟩⟩⟩⟩
theorem okT_Sess {n : Nat} {cs : List AV} (h : okT ti0 n 28 cs) : ∃ x : SessV, cs = encSess x ∧ okSess x := by
 obtain ⟨m, hf⟩ := okT_struct (fs := [(0, 9), (1, 3), (2, 4), (3, 3), (4, 3), (5, 25), (8, 26)]) ⟨_, rfl, rfl, rfl, rfl, rfl, rfl, rfl⟩ h
 obtain ⟨a0, b0, rfl, h0, hf⟩ := hf
 obtain ⟨v0, rfl, k0⟩ := okT_str' h0
 obtain ⟨a1, b1, rfl, h1, hf⟩ := hf
 obtain ⟨v1, rfl, k1⟩ := okT_int' h1
 obtain ⟨a2, b2, rfl, h2, hf⟩ := hf
 obtain ⟨v2, rfl⟩ := okT_bool' h2
 obtain ⟨a3, b3, rfl, h3, hf⟩ := hf
 obtain ⟨v3, rfl, k3⟩ := okT_int' h3
 obtain ⟨a4, b4, rfl, h4, hf⟩ := hf
 obtain ⟨v4, rfl, k4⟩ := okT_int' h4
 obtain ⟨a5, b5, rfl, h5, hf⟩ := hf
 obtain ⟨v5, rfl, k5⟩ := okT_Out h5
 obtain ⟨a6, b6, rfl, h6, hf⟩ := hf
 obtain ⟨v6, rfl, k6⟩ := okT_ints' ⟨_, rfl, rfl, rfl, rfl, rfl, rfl⟩ h6
 subst hf
 exact ⟨⟨v0, v1, v2, v3, v4, v5, v6⟩, rfl, k0, k1, trivial, k3, k4, k5, k6⟩
def zzSess : List AV := [(.sc (.string ⟨#[]⟩)), (.sc (.int .i64 0)), (.sc (.bool false)), (.sc (.int .i64 0)), (.sc (.int .i64 0)), (.sc (.int .i64 0)), .nl, .nl, .nl]
theorem toF_Sess (n : Nat) (hn : 1048576 < n) (x : SessV) (h : wtSess x ≤ 1048576) : tree E0 (n + 6) 35 13 [.agg (encSess x)] = some (.agg (encSess x)) := by
 rw [tree_def, f13_eq, f13]
 simp only [PR_box, PR_new, PR_fadr, PR_load, PR_store, pNew]
 rw [box_fl _ _ _ (flSess x)]
 simp only [List.length_nil, List.nil_append, List.length_cons, List.cons_append, Nat.zero_add, Nat.reduceAdd]
 refine st_sc (T := ctySess) (C := encSess x) (Z := zzSess) (v := .string x.fClient) (o' := 1) rfl rfl rfl rfl rfl ?_
 refine st_sc (v := .int .i64 x.fBorn) (o' := 2) rfl rfl rfl rfl rfl ?_
 refine st_sc (v := .bool x.fClean) (o' := 3) rfl rfl rfl rfl rfl ?_
 refine st_sc (v := .int .i64 x.fConn) (o' := 4) rfl rfl rfl rfl rfl ?_
 refine st_sc (v := .int .i64 x.fGen) (o' := 5) rfl rfl rfl rfl rfl ?_
 refine st_agg (cty := ctyOut) (cells := encOut x.fO) (o' := 8) rfl rfl rfl rfl rfl (flOut _) (toF_Out (n + 0) (by omega) x.fO (by unfold wtSess at h; omega)) tyOut rfl (by decide) rfl ?_
 refine st_ro (o' := 9) rfl rfl rfl rfl rfl (toF_IntS (n + 4) (by omega) x.fIn (by unfold wtSess at h; omega)) rfl ?_
 exact st_end rfl rfl rfl (flSess x) tySess (okWSess 4 x)
theorem eqF_Sess (n : Nat) (hn : 1048576 < n) (tb : Nat) (x : SessV) (h : wtSess x ≤ 1048576) : tree E0 (n + 6) tb 15 [.agg (encSess x), .agg (encSess x)] = some (.sc (.bool true)) := by
 rw [tree_def, f15_eq, f15]
 simp only [PR_box, PR_fadr, PR_load, PR_bin, PR_binB, PR_un, PR_cond]
 rw [box_fl _ _ _ (flSess x), box_fl _ _ _ (flSess x)]
 simp only [List.length_nil, List.nil_append, List.length_cons, List.cons_append, Nat.zero_add, Nat.reduceAdd]
 refine eq_sc (v := .string x.fClient) rfl rfl (fun k => ne_str _ k) ?_
 refine eq_sc (v := .int .i64 x.fBorn) rfl rfl (fun k => ne_int _ k) ?_
 refine eq_b (b := x.fClean) rfl rfl ?_
 refine eq_sc (v := .int .i64 x.fConn) rfl rfl (fun k => ne_int _ k) ?_
 refine eq_sc (v := .int .i64 x.fGen) rfl rfl (fun k => ne_int _ k) ?_
 refine eq_agg (cells := encOut x.fO) rfl rfl rfl (flOut _) (eqF_Out (n + 0) (by omega) _ x.fO (by unfold wtSess at h; omega)) ?_
 refine eq_ro rfl rfl rfl (eqF_IntS (n + 4) (by omega) _ x.fIn (by unfold wtSess at h; omega)) ?_
 rfl
theorem szF_Sess (n : Nat) (hn : 1048576 < n) (ty : Nat) (x : SessV) (hx : okSess x) (left : Int) (h0 : 0 ≤ left) (h1 : left ≤ 1048576) : tree E0 (n + 6) ty 11 [.agg (encSess x), .sc (.int .i64 left)] = szA (wtSess x) left := by
 obtain ⟨k0, _, _, _, _, k5, k6⟩ := hx
 unfold wtSess
 rw [tree_def, f11_eq, f11]
 simp only [PR_box, PR_fadr, PR_load, PR_lenS, PR_bin, PR_cond]
 rw [box_fl _ _ _ (flSess x)]
 simp only [List.length_nil, List.nil_append, List.length_cons, List.cons_append, Nat.zero_add, Nat.reduceAdd]
 refine sz_str (s := x.fClient) rfl h0 h1 k0 rfl fun h0 h1 => ?_
 refine sz_agg (cells := encOut x.fO) rfl h0 h1 rfl (flOut _) (szF_Out (n + 0) (by omega) _ x.fO k5 _ h0 h1) rfl fun h0 h1 => ?_
 refine sz_ro rfl h0 h1 rfl (szF_IntS (n + 4) _ x.fIn k6.1 _ h0 h1) rfl fun h0 h1 => ?_
 exact sz_end h0
end Go.Proofs.YtdameggfgnpehaaGreatDoor.Abs
set_option linter.unusedVariables false
set_option linter.unusedSimpArgs false
namespace Go.Proofs.YtdameggfgnpehaaGreatDoor.Abs
open Go
section
variable {β : Type} {n : Nat} {H : Heap} {r : Option β} {K : AV → Option β} {KH : AV → Heap → Option β}
theorem w_box {cs : List AV} (hf : cs.all isFl = true) (h : ∀ i, i = H.length → (H ++ [⟨cs, true, true⟩])[i]? = some ⟨cs, true, true⟩ → KH (.ptr i 0) (H ++ [⟨cs, true, true⟩]) = r) : pBox (.agg cs) H (fun x H => KH x H) = r := by
 rw [box_fl cs H _ hf]
 exact h _ rfl (by rw [List.getElem?_append_right (Nat.le_refl _), Nat.sub_self]; rfl)
theorem w_new {cs : List AV} (h : ∀ i, i = H.length → (H ++ [⟨cs, true, true⟩])[i]? = some ⟨cs, true, true⟩ → KH (.ptr i 0) (H ++ [⟨cs, true, true⟩]) = r) : pNew cs H (fun x H => KH x H) = r :=
 h _ rfl (by rw [List.getElem?_append_right (Nat.le_refl _), Nat.sub_self]; rfl)
theorem w_newSl {len sz : Nat} {cs : List AV} (h : ∀ i, i = H.length → (H ++ [⟨cs, true, true⟩])[i]? = some ⟨cs, true, true⟩ → KH (.sl i 0 len sz) (H ++ [⟨cs, true, true⟩]) = r) : pNewSl len sz cs true H (fun x H => KH x H) = r :=
 h _ rfl (by rw [List.getElem?_append_right (Nat.le_refl _), Nat.sub_self]; rfl)
theorem w_fill {zs cs : List AV} {ps : List (Nat × Nat × AV)} {KL : List AV → Option β} (hf : fillA zs ps = some cs) (h : KL cs = r) : ((fillA zs ps).bind fun c => KL c) = r := by
 rw [hf]
 exact h
theorem w_fadr {o id off : Nat} (h : K (.ptr id (off + o)) = r) : pFadr o (.ptr id off) (fun x => K x) = r := h
theorem w_fadr_rp {o : Nat} {cells : List AV} (h : K (.rp (cells.drop o)) = r) : pFadr o (.rp cells) (fun x => K x) = r := h
theorem w_ld {i off : Nat} {cs : List AV} {c : AV} (hi : H[i]? = some ⟨cs, true, true⟩) (hl : off < cs.length) (hc : (cs.drop off).take 1 = [c]) (h : K c = r) : pLoad false 1 (.ptr i off) H (fun x => K x) = r := by
 have e : rdCells H i off 1 = some [c] := by
  simp only [rdCells, hi, if_true]
  rw [if_pos (by omega), hc]
 rw [ldF e]
 exact h
theorem w_ldA {i off w : Nat} {cs ds : List AV} (hi : H[i]? = some ⟨cs, true, true⟩) (hl : off + w ≤ cs.length) (hc : (cs.drop off).take w = ds) (h : K (.agg ds) = r) : pLoad true w (.ptr i off) H (fun x => K x) = r := by
 have e : rdCells H i off w = some ds := by
  simp only [rdCells, hi, if_true]
  rw [if_pos hl, hc]
 rw [ldT e]
 exact h
theorem w_ld_rp {cells : List AV} {c : AV} (hc : cells.take 1 = [c]) (h : K c = r) : pLoad false 1 (.rp cells) H (fun x => K x) = r := by
 cases cells with
 | nil => cases hc
 | cons x xs =>
  obtain rfl : x = c := by simpa using hc
  rw [ld1_rp]
  exact h
theorem w_ldA_rp {w : Nat} {cells ds : List AV} (hl : w ≤ cells.length) (hc : cells.take w = ds) (h : K (.agg ds) = r) : pLoad true w (.rp cells) H (fun x => K x) = r := by
 simp only [pLoad, hl, if_true, hc]
 exact h
theorem w_bin {op : BinOp} {x y v : AV} (e : ∀ k : AV → Option β, pBin op x y k = k v) (h : K v = r) : pBin op x y (fun t => K t) = r := (e _).trans h
theorem w_binB {op : BinOp} {x y v : AV} (e : ∀ k : AV → Option β, pBinB op x y k = k v) (h : K v = r) : pBinB op x y (fun t => K t) = r := (e _).trans h
theorem w_binA {op : BinOp} {qs : List Nat} {x y v : AV} (e : ∀ k : AV → Option β, pBinA op qs x y k = k v) (h : K v = r) : pBinA op qs x y (fun t => K t) = r := (e _).trans h
theorem w_not {b : Bool} (h : K (.sc (.bool (!b))) = r) : pUn .not (.sc (.bool b)) (fun t => K t) = r := h
theorem w_lenS {s : ByteArray} (h : K (.sc (.int .i64 s.size)) = r) : pLenS (.sc (.string s)) (fun t => K t) = r := h
theorem w_len {m : Nat} {cs : List AV} (h : K (.sc (.int .i64 m)) = r) : pLen (.ro m cs) (fun t => K t) = r := h
theorem w_split {g : Prop} (b : Bool) (ht : b = true → g) (hf : b = false → g) : g := by
 cases h : b
 ·exact hf h
 ·exact ht h
theorem w_cT {b : Bool} {x y : Option β} (hb : b = true) (h : x = r) : pCond (.sc (.bool b)) x y = r := by subst hb; exact h
theorem w_cF {b : Bool} {x y : Option β} (hb : b = false) (h : y = r) : pCond (.sc (.bool b)) x y = r := by subst hb; exact h
theorem w_gT {b : Bool} {m : (AV → Heap → Option β) → Option β} (hb : b = true) (h : m (fun x H => KH x H) = r) : pGuard (.sc (.bool b)) true H m (fun x H => KH x H) = r := by subst hb; exact h
theorem w_gF {b : Bool} {m : (AV → Heap → Option β) → Option β} (hb : b = false) (h : KH (.sc undef) H = r) : pGuard (.sc (.bool b)) true H m (fun x H => KH x H) = r := by subst hb; exact h
theorem w_hT {b : Bool} {m : (AV → Heap → Option β) → Option β} (hb : b = false) (h : m (fun x H => KH x H) = r) : pGuard (.sc (.bool b)) false H m (fun x H => KH x H) = r := by subst hb; exact h
theorem w_hF {b : Bool} {m : (AV → Heap → Option β) → Option β} (hb : b = true) (h : KH (.sc undef) H = r) : pGuard (.sc (.bool b)) false H m (fun x H => KH x H) = r := by subst hb; exact h
theorem w_u {t : Bool} {m : (AV → Heap → Option β) → Option β} (h : KH (.sc undef) H = r) : pGuard (.sc undef) t H m (fun x H => KH x H) = r := h
theorem w_pT {b : Bool} {x y : AV} (hb : b = true) (h : K x = r) : pPick (.sc (.bool b)) x y (fun t => K t) = r := by
 subst hb
 cases x <;> cases y <;> exact h
theorem w_pF {b : Bool} {x y : AV} (hb : b = false) (h : K y = r) : pPick (.sc (.bool b)) x y (fun t => K t) = r := by
 subst hb
 cases x <;> cases y <;> exact h
def all2 {α : Type} (p : α → α → Bool) : List α → List α → Bool
 | x :: a, y :: b => if p x y then all2 p a b else false
 | _, _ => true
theorem eqv_loop {α : Type} {w : Nat} (enc : α → List AV) (hw : ∀ x, (enc x).length = w) (h0 : 0 < w) (pk : α → AV) (LOAD : AV → (AV → Option β) → Option β) (hld : ∀ x rest k, LOAD (.rp (enc x ++ rest)) k = k (pk x)) (NE : AV → AV → (AV → Option β) → Option β) (pr : α → α → Bool) (hne : ∀ x y k, NE (pk x) (pk y) k = k (.sc (.bool (!(pr x y)))))
  (l q : List α) (hlq : l.length = q.length) (hlen : l.length ≤ 1048576) (L : Nat → AV → Option β) (KF KT : Option β)
  (hL : ∀ m i, L (m + 1) i = pBin .lss i (.sc (.int .i64 l.length)) fun t14 => pCond t14 (pIadr w (rowsC enc l) i fun t19 => LOAD t19 fun t20 => pIadr w (rowsC enc q) i fun t23 => LOAD t23 fun t24 => NE t20 t24 fun t25 => pCond t25 KF (pBin .add i (.sc (.int .i64 1)) fun t16 => L m t16)) KT) :
  ∀ (s t pl pq : List α) (m : Nat), l = pl ++ s → q = pq ++ t → pl.length = pq.length → s.length < m → L m (.sc (.int .i64 pl.length)) = if all2 pr s t then KT else KF
 | [], t, pl, pq, m + 1, hl, hq, hpp, hm => by
  rw [List.append_nil] at hl
  subst hl
  rw [hL, lss_nat, cond_b]
  cases t <;> simp [all2]
 | x :: s, [], pl, pq, m + 1, hl, hq, hpp, hm => by
  have h1 := congrArg List.length hl
  have h2 := congrArg List.length hq
  simp only [List.length_append, List.length_cons, List.length_nil] at h1 h2
  omega
 | x :: s, y :: t, pl, pq, m + 1, hl, hq, hpp, hm => by
  have hlt : pl.length < l.length := by rw [hl]; simp
  rw [hL, lss_nat, cond_b, if_pos (by simpa using hlt)]
  have hel := fun k => el_ro (β := β) hw h0 pl x s k
  rw [← hl] at hel
  have heq := fun k => el_ro (β := β) hw h0 pq y t k
  rw [← hq, ← hpp] at heq
  rw [hel, hld, heq, hld, hne, cond_b, all2]
  cases hpx : pr x y
  ·simp
  ·simp only [Bool.not_true, Bool.false_eq_true, if_false, if_true]
   rw [inc_nat _ _ (by omega)]
   have ih := eqv_loop enc hw h0 pk LOAD hld NE pr hne l q hlq hlen L KF KT hL s t (pl ++ [x]) (pq ++ [y]) m (by rw [hl]; simp) (by rw [hq]; simp) (by simp [hpp]) (by simpa using hm)
   rw [List.length_append, List.length_singleton] at ih
   exact ih
def encI (z : Int) : List AV := [.sc (.int .i64 z)]
def encS (s : ByteArray) : List AV := [.sc (.string s)]
theorem ints_rows (l : List Int) : intsC l = rowsC encI l := by
 rw [rowsC, show (encI) = fun z => [AV.sc (.int .i64 z)] from rfl, flat_one]
theorem strs_rows (l : List ByteArray) : strsC l = rowsC encS l := by
 rw [rowsC, show (encS) = fun z => [AV.sc (.string z)] from rfl, flat_one]
theorem ldI (z : Int) (rest : List AV) (H : Heap) (k : AV → Option β) : pLoad false 1 (.rp (encI z ++ rest)) H k = k (.sc (.int .i64 z)) := ld1_rp _ _ _ _
theorem ldS (z : ByteArray) (rest : List AV) (H : Heap) (k : AV → Option β) : pLoad false 1 (.rp (encS z ++ rest)) H k = k (.sc (.string z)) := ld1_rp _ _ _ _
def eqI (x y : Int) : Bool := x == y
def eqSt (x y : ByteArray) : Bool := x.toList == y.toList
def eqList {α : Type} (p : α → α → Bool) (a b : List α) : Bool := if a.length = b.length then all2 p a b else false
theorem neI (x y : Int) (k : AV → Option β) : pBin .neq (.sc (.int .i64 x)) (.sc (.int .i64 y)) k = k (.sc (.bool (!(eqI x y)))) := rfl
theorem neS (x y : ByteArray) (k : AV → Option β) : pBin .neq (.sc (.string x)) (.sc (.string y)) k = k (.sc (.bool (!(eqSt x y)))) := rfl
theorem binA_ne (qs : List Nat) (cs ds : List AV) (b : Bool) (h : eqCells qs cs ds = some b) (k : AV → Option β) : pBinA .neq qs (.agg cs) (.agg ds) k = k (.sc (.bool (!b))) := by
 simp only [pBinA, h, Option.bind_some]
theorem w_merge {X : Option β} (e : Bool) {K : Bool → Option β} (h1 : ∀ b, b = e → X = K b) (h2 : ∀ b, b = e → K b = r) : X = r := (h1 e rfl).trans (h2 e rfl)
theorem w_pTb {c v b : Bool} {y : AV} (hc : c = true) (hv : v = b) (h : K (.sc (.bool b)) = r) : pPick (.sc (.bool c)) (.sc (.bool v)) y (fun t => K t) = r := by
 subst hc
 subst hv
 cases y <;> exact h
theorem w_pFb {c v b : Bool} {x : AV} (hc : c = false) (hv : v = b) (h : K (.sc (.bool b)) = r) : pPick (.sc (.bool c)) x (.sc (.bool v)) (fun t => K t) = r := by
 subst hc
 subst hv
 cases x <;> exact h
theorem mAT {b c v : Bool} (hb : b = (c && v)) (h : c = true) : v = b := by rw [hb, h]; rfl
theorem mAF {b c v : Bool} (hb : b = (c && v)) (h : c = false) : false = b := by rw [hb, h]; rfl
theorem mOT {b c v : Bool} (hb : b = (c || v)) (h : c = true) : true = b := by rw [hb, h]; rfl
theorem mOF {b c v : Bool} (hb : b = (c || v)) (h : c = false) : v = b := by rw [hb, h]; rfl
theorem w_letJ {α : Sort _} {γ : Type} {x : α} {f : α → Option γ} {r : Option γ} (h : f x = r) : letJ x f = r := h
theorem w_endB {ty : Nat} {b b' : Bool} (h : b = b') : ownTree ti0 E0.tp ty H (.sc (.bool b)) = some (.sc (.bool b')) := by subst h; rfl
theorem w_endI {ty : Nat} {b b' : Int} (h : b = b') : ownTree ti0 E0.tp ty H (.sc (.int .i64 b)) = some (.sc (.int .i64 b')) := by subst h; rfl
theorem w_iadr0 {α : Type} {w : Nat} {enc : α → List AV} {l : List α} (hw : ∀ x, (enc x).length = w) (h0 : 0 < w) (hl : 0 < l.length) (h : ∀ x t, l = x :: t → K (.rp (enc x ++ (t.map enc).flatten)) = r) : pIadr w (rowsC enc l) (.sc (.int .i64 0)) (fun t => K t) = r := by
 cases l with
 | nil => simp at hl
 | cons x t =>
  have := el_ro (β := β) hw h0 [] x t (fun t => K t)
  simp only [List.nil_append, List.length_nil, Int.natCast_zero] at this
  rw [this]
  exact h x t rfl
theorem PR_callC {ty : Nat} {f : FuncId} {caps args vs : List AV} {t : AV} {k : AV → Heap → Option β} (hh : plainF f = false) (hv : (args ++ caps).mapM (viewV H 8) = some vs) (ht : tree E0 n ty f vs = some t) :
  (PR n β).call ty (.fn f [] caps) args H k = k (instT ti0 E0.tp H.length ty t).1 (H ++ (instT ti0 E0.tp H.length ty t).2) := by
 show callF E0 (evalFn E0 n) ty f ([] ++ args ++ caps) H k = _
 simp only [callF, plain_ext hh, plain_hm hh, List.nil_append, Bool.false_eq_true, if_false, callT, hv, Option.bind_some]
 have ht : treeOf E0 (evalFn E0 n) ty f vs = some t := ht
 rw [ht]
 rfl
theorem Vw_rp (H : Heap) (cs : List AV) : Vw H (.rp cs) (.rp cs) := fun _ => rfl
def idxOf {α : Type} (p : α → Bool) : List α → Nat → Int
 | [], _ => -1
 | x :: l, i => if p x then i else idxOf p l (i + 1)
theorem index_loop {α : Type} {tb g w : Nat} {caps : List AV} (enc : α → List AV) (pr : α → Bool) (k : AV → Heap → Option β) (hw : ∀ x, (enc x).length = w) (h0 : 0 < w) (hfl : ∀ x, (enc x).all isFl = true) (hh : plainF g = false) (hcv : ∀ H, caps.mapM (viewV H 8) = some caps) (L : Nat → AV → AV → AV → AV → Heap → Option β)
  (hL : ∀ m a b c i H, L (m + 1) a b c i H = pBin .lss i c fun t9 => pCond t9 (pIadr w a i fun t14 => pLoad true w t14 H fun t15 => (PR n β).call tb b [t15] H fun t16 H => pCond t16 (k i H) (pBin .add i (.sc (.int .i64 1)) fun t18 => L m a b c t18 H)) (k (.sc (.int .i64 (-1))) H))
  (l : List α) (hp : ∀ x ∈ l, tree E0 n tb g (.agg (enc x) :: caps) = some (.sc (.bool (pr x)))) (hlen : l.length ≤ 1048576) (H : Heap) : ∀ (t pre : List α) (m : Nat), l = pre ++ t → t.length < m →
   L m (rowsC enc l) (.fn g [] caps) (.sc (.int .i64 l.length)) (.sc (.int .i64 pre.length)) H = k (.sc (.int .i64 (idxOf pr t pre.length))) H
 | [], pre, m + 1, hl, hm => by
  rw [List.append_nil] at hl
  subst hl
  rw [hL, lss_nat, cond_b]
  simp [idxOf]
 | x :: t, pre, m + 1, hl, hm => by
  have hlt : pre.length < l.length := by rw [hl]; simp
  rw [hL, lss_nat, cond_b, if_pos (by simpa using hlt)]
  have hel := fun k => el_ro (β := β) hw h0 pre x t k
  rw [← hl] at hel
  rw [hel, ld_rp w _ _ _ _ (hw x)]
  rw [PR_callC (vs := .agg (enc x) :: caps) hh (by simp only [List.cons_append, List.nil_append, List.mapM_cons, (Vw_agg _ (hfl x)).now, hcv]; rfl) (hp x (by rw [hl]; simp)), instT_sc, List.append_nil]
  simp only
  rw [cond_b, idxOf]
  cases hpx : pr x
  ·simp only [Bool.false_eq_true, if_false]
   rw [inc_nat _ _ (by omega)]
   have ih := index_loop enc pr k hw h0 hfl hh hcv L hL l hp hlen H t (pre ++ [x]) m (by rw [hl]; simp) (by simpa using hm)
   rw [List.length_append, List.length_singleton] at ih
   exact ih
  ·simp only [if_true]
theorem Vw_fn1 {i g : Nat} {cs : List AV} (hi : H[i]? = some ⟨cs, true, true⟩) (hfl : cs.all isFl = true) : Vw H (.fn g [] [.ptr i 0]) (.fn g [] [.rp cs]) := fun X => by
 have hg : (H ++ X)[i]? = some ⟨cs, true, true⟩ := blk_grow hi X
 have hr : rdCells (H ++ X) i 0 (cs.length - 0) = some cs := by
  simp only [rdCells, hg, if_true, Nat.sub_zero, Nat.zero_add, Nat.le_refl, List.drop_zero, List.take_length]
 have hp : viewV (H ++ X) 7 (.ptr i 0) = some (.rp cs) := by
  show ((H ++ X)[i]?).bind (fun b => (rdCells (H ++ X) i 0 (b.cells.length - 0)).bind fun cs => (cs.mapM (viewV (H ++ X) 6)).bind fun vs => some (AV.rp vs)) = _
  rw [hg, Option.bind_some]
  show (rdCells (H ++ X) i 0 (cs.length - 0)).bind _ = _
  rw [hr, Option.bind_some, fl_view hfl]
  rfl
 show (([] : List AV).mapM (viewV (H ++ X) 7)).bind (fun us => ([AV.ptr i 0].mapM (viewV (H ++ X) 7)).bind fun cs => some (AV.fn g us cs)) = _
 simp only [List.mapM_cons, List.mapM_nil, hp, Option.pure_def, Option.bind_eq_bind, Option.bind_some]
theorem w_boxS {v : Value} (hv : leafV v = true) (h : ∀ i, i = H.length → (H ++ [⟨[.sc v], true, true⟩])[i]? = some ⟨[.sc v], true, true⟩ → KH (.ptr i 0) (H ++ [⟨[.sc v], true, true⟩]) = r) : pBox (.sc v) H (fun x H => KH x H) = r := by
 have e : cellsA (.sc v) = some [.sc v] := by simp only [cellsA, isLeaf, hv, if_true]
 show (cellsA (.sc v)).bind _ = r
 rw [e]
 exact h _ rfl (by rw [List.getElem?_append_right (Nat.le_refl _), Nat.sub_self]; rfl)
theorem idx_s (s : ByteArray) (i : Nat) (b : UInt8) (k : AV → Option β) (h : s.data.toList[i]? = some b) : pIdx (.sc (.string s)) (.sc (.int .i64 i)) k = k (.sc (.int .u8 b.toNat)) := by
 have hlt : i < s.size := by
  have := (List.getElem?_eq_some_iff.1 h).1
  simpa using this
 have hb : s[i]'hlt = b := by
  have := (List.getElem?_eq_some_iff.1 h).2
  simp only [Array.getElem_toList] at this
  exact this
 simp only [pIdx, asI, asS, Option.bind_some, Int.toNat_natCast]
 rw [dif_pos ⟨by omega, hlt⟩, hb]
theorem slice_rows {α : Type} {w : Nat} {enc : α → List AV} (hw : ∀ x, (enc x).length = w) (l : List α) (d : Nat) (hd : d ≤ l.length) (k : AV → Option β) : pSlice w (rowsC enc l) (some (.sc (.int .i64 d))) none k = k (rowsC enc (l.drop d)) := by
 simp only [pSlice, lenA, bound, asI, Option.bind_some]
 rw [if_pos (by omega)]
 have h1 : ((l.length : Int) - d).toNat = (l.drop d).length := by rw [List.length_drop]; omega
 have h2 : ((l.map enc).flatten.drop (d * w)) = ((l.drop d).map enc).flatten := by
  have := drop_rows hw (l.take d) (l.drop d)
  rw [List.take_append_drop, List.length_take, Nat.min_eq_left hd] at this
  exact this
 rw [h1, Int.toNat_natCast, h2, ← rows_len hw, List.take_length]
theorem eqfunc_loop {α : Type} {tb g w : Nat} (enc : α → List AV) (pr : α → α → Bool) (k : AV → Heap → Option β) (hk : ∀ v H H', k (.sc v) H = k (.sc v) H') (z : List AV) (hz : z.length = w) (hw : ∀ x, (enc x).length = w) (h0 : 0 < w) (hfl : ∀ x, (enc x).all isFl = true) (hh : plainF g = false) (L : Nat → AV → AV → AV → AV → AV → Heap → Option β)
  (hL : ∀ m b f a c i H, L (m + 1) b f a c i H = pBin .lss i c fun t18 => pCond t18 (pIadr w a i fun t20 => pLoad true w t20 H fun t21 => pNew z H fun t8 H => pStore w t8 t21 H fun H => pIadr w b i fun t24 => pLoad true w t24 H fun t25 => pNew z H fun t9 H => pStore w t9 t25 H fun H => pLoad true w t8 H fun t27 => pLoad true w t9 H fun t28 => (PR n β).call tb f [t27, t28] H fun t29 H => pUn .not t29 fun t30 => pCond t30 (k (.sc (.bool false)) H) (pBin .add i (.sc (.int .i64 1)) fun t31 => L m b f a c t31 H)) (k (.sc (.bool true)) H))
  (l q : List α) (hp : ∀ x y, x ∈ l → y ∈ q → tree E0 n tb g [.agg (enc x), .agg (enc y)] = some (.sc (.bool (pr x y)))) (hlq : l.length = q.length) (hlen : l.length ≤ 1048576) : ∀ (s t pl pq : List α) (m : Nat) (H : Heap), l = pl ++ s → q = pq ++ t → pl.length = pq.length → s.length < m →
   L m (rowsC enc q) (.fn g [] []) (rowsC enc l) (.sc (.int .i64 l.length)) (.sc (.int .i64 pl.length)) H = k (.sc (.bool (all2 pr s t))) []
 | [], t, pl, pq, m + 1, H, hl, hq, hpp, hm => by
  have ht : t = [] := by
   have h1 := congrArg List.length hl
   have h2 := congrArg List.length hq
   simp only [List.length_append, List.length_nil] at h1 h2
   exact List.eq_nil_of_length_eq_zero (by omega)
  subst ht
  rw [List.append_nil] at hl
  subst hl
  rw [hL, lss_nat, cond_b]
  simp only [Nat.lt_irrefl, decide_false, Bool.false_eq_true, if_false, all2]
  exact hk _ _ _
 | x :: s, [], pl, pq, m + 1, H, hl, hq, hpp, hm => by
  have h1 := congrArg List.length hl
  have h2 := congrArg List.length hq
  simp only [List.length_append, List.length_cons, List.length_nil] at h1 h2
  omega
 | x :: s, y :: t, pl, pq, m + 1, H, hl, hq, hpp, hm => by
  have hlt : pl.length < l.length := by rw [hl]; simp
  rw [hL, lss_nat, cond_b, if_pos (by simpa using hlt)]
  have hel := fun k => el_ro (β := β) hw h0 pl x s k
  rw [← hl] at hel
  have heq := fun k => el_ro (β := β) hw h0 pq y t k
  rw [← hq, ← hpp] at heq
  rw [hel, ld_rp w _ _ _ _ (hw x)]
  refine lw_put hz (hw x) (fl_leaf (hfl x)) fun i hi => ?_
  rw [heq, ld_rp w _ _ _ _ (hw y)]
  refine lw_put hz (hw y) (fl_leaf (hfl y)) fun j hj => ?_
  replace hi := blk_grow hi [⟨enc y, true, true⟩]
  refine lw_ld hi (hw x) ?_
  refine lw_ld hj (hw y) ?_
  refine lw_sc hh (vcons (Vw_agg _ (hfl x)) (vcons (Vw_agg _ (hfl y)) vnil)) (hp x y (by rw [hl]; simp) (by rw [hq]; simp)) ?_
  rw [notB, cond_b, all2]
  cases hpx : pr x y
  ·simp only [Bool.not_false, if_true, Bool.false_eq_true, if_false]
   exact hk _ _ _
  ·simp only [Bool.not_true, Bool.false_eq_true, if_false, if_true]
   rw [inc_nat _ _ (by omega)]
   have ih := eqfunc_loop enc pr k hk z hz hw h0 hfl hh L hL l q hp hlq hlen s t (pl ++ [x]) (pq ++ [y]) m ((H ++ [⟨enc x, true, true⟩]) ++ [⟨enc y, true, true⟩]) (by rw [hl]; simp) (by rw [hq]; simp) (by simp [hpp]) (by simpa using hm)
   rw [List.length_append, List.length_singleton] at ih
   exact ih
theorem ends_loop {α : Type} {tb g w : Nat} (enc : α → List AV) (pr : α → α → Bool) (k : AV → Heap → Option β) (hw : ∀ x, (enc x).length = w) (h0 : 0 < w) (hfl : ∀ x, (enc x).all isFl = true) (hh : plainF g = false) (L : Nat → AV → AV → AV → Heap → Option β)
  (hL : ∀ m a b i H, L (m + 1) a b i H = pLen b fun t13 => pBin .lss i t13 fun t14 => pCond t14 (pLen a fun t19 => pLen b fun t21 => pBin .sub t19 t21 fun t22 => pBin .add t22 i fun t24 => pIadr w a t24 fun t25 => pLoad true w t25 H fun t26 => pIadr w b i fun t29 => pLoad true w t29 H fun t30 => (PR n β).call tb (.fn g [] []) [t26, t30] H fun t31 H => pUn .not t31 fun t32 => pCond t32 (k (.sc (.bool false)) H) (pBin .add i (.sc (.int .i64 1)) fun t16 => L m a b t16 H)) (k (.sc (.bool true)) H))
  (l q : List α) (hp : ∀ x y, x ∈ l → y ∈ q → tree E0 n tb g [.agg (enc x), .agg (enc y)] = some (.sc (.bool (pr x y)))) (hlq : q.length ≤ l.length) (hlen : l.length ≤ 1048576) (H : Heap) : ∀ (t s pq pl : List α) (m : Nat), l = pl ++ s → q = pq ++ t → pl.length = l.length - q.length + pq.length → t.length < m →
   L m (rowsC enc l) (rowsC enc q) (.sc (.int .i64 pq.length)) H = k (.sc (.bool (all2 pr s t))) H
 | [], s, pq, pl, m + 1, hl, hq, hpp, hm => by
  rw [List.append_nil] at hq
  subst hq
  have e : all2 pr s [] = true := by cases s <;> rfl
  rw [hL, len_ro, lss_nat, cond_b, e]
  simp
 | y :: t, [], pq, pl, m + 1, hl, hq, hpp, hm => by
  have h1 := congrArg List.length hl
  have h2 := congrArg List.length hq
  simp only [List.length_append, List.length_cons, List.length_nil] at h1 h2
  omega
 | y :: t, x :: s, pq, pl, m + 1, hl, hq, hpp, hm => by
  have hlt : pq.length < q.length := by rw [hq]; simp
  rw [hL, len_ro, lss_nat, cond_b, if_pos (by simpa using hlt)]
  have hel := fun k => el_ro (β := β) hw h0 pl x s k
  rw [← hl] at hel
  have heq := fun k => el_ro (β := β) hw h0 pq y t k
  rw [← hq] at heq
  have hi : ((l.length : Int) - (q.length : Int)) = ((l.length - q.length : Nat) : Int) := by omega
  have ha : (((l.length - q.length : Nat) : Int) + (pq.length : Int)) = (pl.length : Int) := by omega
  rw [len_ro, len_ro, sub64 _ _ _ (by omega) (by omega), hi, add64, ha, wrap64 _ (by omega) (by omega)]
  rw [hel, ld_rp w _ _ _ _ (hw x), heq, ld_rp w _ _ _ _ (hw y)]
  refine lw_sc hh (vcons (Vw_agg _ (hfl x)) (vcons (Vw_agg _ (hfl y)) vnil)) (hp x y (by rw [hl]; simp) (by rw [hq]; simp)) ?_
  rw [notB, cond_b, all2]
  cases hpx : pr x y
  ·simp only [Bool.not_false, if_true, Bool.false_eq_true, if_false]
  ·simp only [Bool.not_true, Bool.false_eq_true, if_false, if_true]
   rw [inc_nat _ _ (by omega)]
   have ih := ends_loop enc pr k hw h0 hfl hh L hL l q hp hlq hlen H t s (pq ++ [y]) (pl ++ [x]) m (by rw [hl]; simp) (by rw [hq]; simp) (by simp [hpp]; omega) (by simpa using hm)
   rw [List.length_append, List.length_singleton] at ih
   exact ih
theorem nT {b : Bool} (h : b = false) : (!b) = true := by rw [h]; rfl
theorem nF {b : Bool} (h : b = true) : (!b) = false := by rw [h]; rfl
end
end Go.Proofs.YtdameggfgnpehaaGreatDoor.Abs
set_option linter.unusedVariables false
set_option linter.unusedSimpArgs false
set_option maxRecDepth 100000
namespace Go.Proofs.YtdameggfgnpehaaGreatDoor.Abs
open Go
variable {β : Type} {n : Nat} {r : Option β}
theorem app_bytes (s : ByteArray) (hs : s.size ≤ 140737488355328) (H : Heap) (K : AV → Heap → Option β) : pApp 1 1 .nl (bytesC s) H K = K (.sl H.length 0 s.size 1) (H ++ [⟨bytesAV s, true, true⟩]) := by
 have e1 : content H 1 (bytesC s) = some (bytesAV s) := by
  show (if (bytesAV s).length = s.size * 1 then some (bytesAV s) else none) = _
  rw [if_pos (by rw [bytesAV_len]; omega)]
 have e2 : content H 1 .nl = some [] := rfl
 have e3 : lenA (bytesC s) = some s.size := rfl
 simp only [pApp, lenA, e1, e2, kill, Option.bind_some, e3]
 rw [if_pos (by omega), if_pos (bytesAV_leaf s)]
 simp only [pNewSl, Nat.zero_add, List.nil_append]
theorem own_bytes {H : Heap} {id d : Nat} {s : ByteArray} (h : H[id]? = some ⟨bytesAV s, true, true⟩) : ownT ti0 E0.tp H (d + 2) 43 (.sl id 0 s.size 1) = some (bytesC s, [id]) := by
 rw [ownT_sl]
 have ha : isApp H id = true := by simp only [isApp, h]
 have hr : rdCells H id 0 (s.size * 1) = some (bytesAV s) := by
  have hl := bytesAV_len s
  simp only [rdCells, h, if_true, Nat.zero_add, Nat.mul_one, hl, Nat.le_refl, List.drop_zero]
  rw [← hl, List.take_length]
 obtain ⟨i, j, h1, h2, h3, h4⟩ := tyByteS
 simp only [h1, h2, Option.bind_some, h3, if_true, ha, hr]
 have ho := ownL_sc (ti := ti0) (tp := E0.tp) (H := H) (d := d) (List.replicate s.size j.cty).flatten (bv s) (by rw [bv_len]; simp [h4])
 rw [bytesAV_eq, ho, Option.bind_some, ← bytesAV_eq]
theorem joined1F (n : Nat) (hn : 1 < n) (s : ByteArray) (hs : s.size ≤ 1048576) : tree E0 (n + 1) 43 149 [.ro 1 [bytesC s]] = some (bytesC s) := by
 rw [tree_def, f149_eq, f149]
 simp only [PR_len]
 refine w_len ?_
 obtain ⟨m, rfl⟩ : ∃ m, n = m + 2 := ⟨n - 2, by omega⟩
 rw [f149_l0]
 simp only [PR_bin, PR_cond, PR_iadr, PR_load, PR_app]
 refine w_bin (v := .sc (.bool true)) (fun k => rfl) ?_
 refine w_cT rfl ?_
 have e1 : ∀ K : AV → Option AV, pIadr 1 (.ro 1 [bytesC s]) (.sc (.int .i64 0)) K = K (.rp [bytesC s]) := fun K => iadr_ro 1 1 [bytesC s] 0 K (by decide) (by simp)
 rw [e1, ld1_rp, app_bytes s (by omega)]
 refine w_bin (v := .sc (.int .i64 1)) (fun k => rfl) ?_
 rw [f149_l0]
 simp only [PR_bin, PR_cond]
 refine w_bin (v := .sc (.bool false)) (fun k => rfl) ?_
 refine w_cF rfl ?_
 rw [ownTree, own_bytes (d := 6) (s := s) rfl]
 rfl
theorem own_msg {H : Heap} {id d : Nat} {m : MsgV} (h : H[id]? = some ⟨bytesAV m.fBody, true, true⟩) : ownL (ownT ti0 E0.tp H (d + 2)) ctyMsg [.sc (.string m.fTopic), .sl id 0 m.fBody.size 1, .sc (.int .i64 m.fQos), .sc (.bool m.fRetain)] = some (encMsg m, [id]) := by
 have hb := own_bytes (d := d) h
 simp only [ctyMsg, ownL, ownT_sc, hb, Option.bind_some, List.nil_append, List.append_nil]
 rfl
theorem own_aggMsg {H : Heap} {id : Nat} {m : MsgV} (h : H[id]? = some ⟨bytesAV m.fBody, true, true⟩) : ownTree ti0 E0.tp 49 H (.agg [.sc (.string m.fTopic), .sl id 0 m.fBody.size 1, .sc (.int .i64 m.fQos), .sc (.bool m.fRetain)]) = some (.agg (encMsg m)) := by
 obtain ⟨i, hi, hc⟩ := tyMsg
 rw [ownTree, ownT_agg, hi, Option.bind_some, hc, own_msg (d := 5) h]
 rfl
theorem l12MsgF (n : Nat) (m : MsgV) (hs : m.fBody.size ≤ 1048576) : tree E0 (n + 1) 49 152 [.agg (encMsg m)] = some (.agg (encMsg m)) := by
 rw [tree_def, f152_eq, f152]
 simp only [PR_box, PR_new, PR_fadr, PR_load, PR_app, PR_fill, PR_store, pNew]
 rw [box_fl _ _ _ (flMsg m)]
 simp only [List.length_nil, List.nil_append, List.length_cons, Nat.zero_add]
 have hH : ([⟨encMsg m, true, true⟩] ++ [⟨zzMsg, true, true⟩] : Heap)[0]? = some ⟨encMsg m, true, true⟩ := rfl
 refine w_fadr ?_
 refine w_ld (c := .sc (.string m.fTopic)) hH (Nat.le_of_ble_eq_true rfl) rfl ?_
 refine w_fadr ?_
 refine w_ld (c := bytesC m.fBody) hH (Nat.le_of_ble_eq_true rfl) rfl ?_
 refine w_fadr ?_
 refine w_ld (c := .sc (.int .i64 m.fQos)) hH (Nat.le_of_ble_eq_true rfl) rfl ?_
 refine w_fadr ?_
 refine w_ld (c := .sc (.bool m.fRetain)) hH (Nat.le_of_ble_eq_true rfl) rfl ?_
 rw [app_bytes _ (by omega)]
 refine w_fill (cs := [.sc (.string m.fTopic), .sl 2 0 m.fBody.size 1, .sc (.int .i64 m.fQos), .sc (.bool m.fRetain)]) rfl ?_
 rw [st_at 4 1 0 _ ⟨zzMsg, true, true⟩ [.sc (.string m.fTopic), .sl 2 0 m.fBody.size 1, .sc (.int .i64 m.fQos), .sc (.bool m.fRetain)] _ _ rfl rfl rfl (by decide) rfl]
 refine w_ldA (ds := [.sc (.string m.fTopic), .sl 2 0 m.fBody.size 1, .sc (.int .i64 m.fQos), .sc (.bool m.fRetain)]) (cs := [.sc (.string m.fTopic), .sl 2 0 m.fBody.size 1, .sc (.int .i64 m.fQos), .sc (.bool m.fRetain)]) rfl (Nat.le_refl _) rfl ?_
 exact own_aggMsg rfl
theorem copyMsgF (n : Nat) (hn : 1 < n) (m : MsgV) (hs : m.fBody.size ≤ 1048576) : tree E0 (n + 2) 49 155 [.agg (encMsg m)] = some (.agg (encMsg m)) := by
 rw [tree_def, f155_eq, f155]
 simp only [PR_box, PR_new, PR_fadr, PR_load, PR_app, PR_fill, PR_store, PR_newSl, pNew]
 rw [box_fl _ _ _ (flMsg m)]
 simp only [List.length_nil, List.nil_append, List.length_cons, Nat.zero_add]
 have hH : ([⟨encMsg m, true, true⟩] ++ [⟨zzMsg, true, true⟩] : Heap)[0]? = some ⟨encMsg m, true, true⟩ := rfl
 refine w_fadr ?_
 refine w_ld (c := bytesC m.fBody) hH (Nat.le_of_ble_eq_true rfl) rfl ?_
 refine w_fill (cs := [bytesC m.fBody]) rfl ?_
 simp only [pNewSl]
 rw [PR_call (vs := [.ro 1 [bytesC m.fBody]]) rfl rfl (joined1F n hn m.fBody hs)]
 obtain ⟨i, j, h1, h2, h3, h4⟩ := tyByteS
 have hi : ∀ N, instT ti0 E0.tp N 43 (bytesC m.fBody) = (.sl N 0 m.fBody.size 1, [⟨bytesAV m.fBody, true, true⟩]) := by
  intro N
  show instT ti0 E0.tp N 43 (.ro m.fBody.size (bytesAV m.fBody)) = _
  simp only [instT, h1, Option.bind_some, h2, Option.getD_some, h3, bytesAV_eq, instL_sc]
 rw [hi]
 simp only
 refine w_fadr ?_
 rw [st_at 1 0 (0 + 1) _ ⟨encMsg m, true, true⟩ [.sl 3 0 m.fBody.size 1] _ _ rfl rfl rfl (Nat.le_of_ble_eq_true rfl) rfl]
 refine w_ldA (ds := [.sc (.string m.fTopic), .sl 3 0 m.fBody.size 1, .sc (.int .i64 m.fQos), .sc (.bool m.fRetain)]) (cs := [.sc (.string m.fTopic), .sl 3 0 m.fBody.size 1, .sc (.int .i64 m.fQos), .sc (.bool m.fRetain)]) rfl (Nat.le_refl _) rfl ?_
 rw [st_at 4 1 0 _ ⟨zzMsg, true, true⟩ [.sc (.string m.fTopic), .sl 3 0 m.fBody.size 1, .sc (.int .i64 m.fQos), .sc (.bool m.fRetain)] _ _ rfl rfl rfl (by decide) rfl]
 refine w_ldA (ds := [.sc (.string m.fTopic), .sl 3 0 m.fBody.size 1, .sc (.int .i64 m.fQos), .sc (.bool m.fRetain)]) (cs := [.sc (.string m.fTopic), .sl 3 0 m.fBody.size 1, .sc (.int .i64 m.fQos), .sc (.bool m.fRetain)]) rfl (Nat.le_refl _) rfl ?_
 exact own_aggMsg rfl
theorem copy_step {d w te g bytes k : Nat} {cty : List Nat} {H X0 : Heap} {x : AV} {cells cs z : List AV} {args vs : List AV} {K : AV → Heap → Option β} (hx : OwnS d H w cty x k cells) (hh : plainF g = false) (hv : args.mapM (viewV (H ++ X0) 8) = some vs) (ht : tree E0 n te g vs = some (.agg cs))
  (hte : ∃ i, ti0 te = some i ∧ i.cty = cty) (hok : okLW (okW ti0 E0.tp d) cty cs) (hfl : cs.all isFl = true) (hw : cs.length = w) (hz : z.length = w) (hb : (k + 1) * bytes ≤ 140737488355328) (h : ∀ x' H', OwnS d H' w cty x' (k + 1) (cells ++ cs) → K x' H' = r) :
  ((PR n β).call te (.fn g [] []) args (H ++ X0) fun t G => (fillA z [(0, w, t)]).bind fun ct => pNewSl 1 w ct true G fun y G => pApp w bytes x y G K) = r := by
 obtain ⟨i, hi, rfl⟩ := hte
 rw [PR_call hh hv ht, instT_agg, hi, Option.getD_some]
 simp only
 have hlen := instL_len (ti := ti0) (tp := E0.tp) (H ++ X0).length i.cty cs
 have hleaf := instL_leaf (ti := ti0) (tp := E0.tp) cs (H ++ X0).length i.cty hfl
 have hf : fillA z [(0, w, .agg (instL ti0 E0.tp (H ++ X0).length i.cty cs).1)] = some (instL ti0 E0.tp (H ++ X0).length i.cty cs).1 := by
  have hc : cellsA (.agg (instL ti0 E0.tp (H ++ X0).length i.cty cs).1) = some (instL ti0 E0.tp (H ++ X0).length i.cty cs).1 := by
   show (if _ then _ else none) = _
   rw [if_pos hleaf]
  have hs : splice z 0 (instL ti0 E0.tp (H ++ X0).length i.cty cs).1 = (instL ti0 E0.tp (H ++ X0).length i.cty cs).1 := by
   unfold splice
   rw [List.take_zero, List.nil_append, List.drop_of_length_le (by rw [hlen, hw, hz]; omega), List.append_nil]
  show ((cellsA (.agg _)).bind fun cs => if cs.length = w then (if 0 + w ≤ z.length then fillA (splice z 0 cs) [] else none) else none) = _
  rw [hc, Option.bind_some, if_pos (by rw [hlen, hw]), if_pos (by omega), hs]
  rfl
 rw [hf, Option.bind_some]
 have key := app_one (H := H) (X := X0 ++ (instL ti0 E0.tp (H ++ X0).length i.cty cs).2) (bytes := bytes) (er := (instL ti0 E0.tp (H ++ X0).length i.cty cs).1) (ec := cs) (eids := List.range' (H ++ X0).length (instL ti0 E0.tp (H ++ X0).length i.cty cs).2.length) (K := K) (r := r) hx (by rw [hlen, hw]) hleaf (by
   have := own_new (d := d) (H := H ++ X0) hok
   rwa [List.append_assoc] at this) List.nodup_range' (fun j hj => by
   rw [List.mem_range'_1] at hj
   have := hj.1
   simp at this
   omega) hb h
 rw [← List.append_assoc] at key
 exact key
theorem mk_take (l : List MsgV) (hs : ∀ x ∈ l, x.fBody.size ≤ 1048576) : True := trivial
theorem l12_loop (n : Nat) (hn : 1048576 < n) (l : List MsgV) (hl : l.length ≤ 1048576) (hs : ∀ x ∈ l, x.fBody.size ≤ 1048576) : ∀ (t pre : List MsgV) (m : Nat) (x : AV) (H : Heap), l = pre ++ t → t.length < m → OwnS 7 H 4 ctyMsg x pre.length (pre.map encMsg).flatten →
  f151_l0 (PR (n + 2) AV) (n + 2) (fun x H => ownTree ti0 E0.tp 31 H x) m (rowsC encMsg l) x (.sc (.int .i64 pre.length)) H = some (rowsC encMsg l)
 | [], pre, m + 1, x, H, he, hm, hx => by
  rw [List.append_nil] at he
  subst he
  rw [f151_l0]
  simp only [PR_len, PR_bin, PR_cond]
  rw [len_ro, lss_nat, cond_b, if_neg (by simp)]
  obtain ⟨ids, ho, hno⟩ := own_res (d := 7) (tyS := 31) tyMsgS hx
  rw [ownTree, ho, Option.bind_some, if_pos hno]
 | y :: t, pre, m + 1, x, H, he, hm, hx => by
  have hlt : pre.length < l.length := by rw [he]; simp
  have hy : y ∈ l := by rw [he]; simp
  rw [f151_l0]
  simp only [PR_len, PR_bin, PR_cond, PR_iadr, PR_load, PR_fill, PR_newSl, PR_app]
  rw [len_ro, lss_nat, cond_b, if_pos (by simpa using hlt)]
  have hel := fun k => el_ro (β := AV) lenMsg (by decide) pre y t k
  rw [← he] at hel
  rw [hel, ld_rp 4 _ _ _ _ (lenMsg y)]
  have hst := fun K h => copy_step (β := AV) (n := n + 2) (X0 := []) (bytes := 56) (z := zzMsg) (K := K) (r := some (rowsC encMsg l)) hx rfl (vcons (Vw_agg _ (flMsg y)) vnil) (l12MsgF (n + 1) y (hs y hy)) tyMsg (okWMsg 5 y) (flMsg y) (lenMsg y) rfl (by omega) h
  simp only [List.append_nil] at hst
  refine hst _ fun x' H' hx' => ?_
  rw [inc_nat _ _ (by omega)]
  have ih := l12_loop n hn l hl hs t (pre ++ [y]) m x' H' (by rw [he]; simp) (by simpa using hm) (by
   rw [List.length_append, List.length_singleton, List.map_append, List.flatten_append]
   simpa using hx')
  rw [List.length_append, List.length_singleton] at ih
  exact ih
theorem l12CopyF (n : Nat) (hn : 1048576 < n) (l : List MsgV) (hl : l.length ≤ 1048576) (hs : ∀ x ∈ l, x.fBody.size ≤ 1048576) : tree E0 (n + 3) 31 151 [rowsC encMsg l] = some (rowsC encMsg l) := by
 rw [tree_def, f151_eq, f151]
 exact l12_loop n hn l hl hs l [] (n + 2) .nl [] rfl (by omega) (OwnS.nil _ _ _ _)
theorem copyMsgs_loop (n : Nat) (hn : 1048576 < n) (l : List MsgV) (hl : l.length ≤ 1048576) (hs : ∀ x ∈ l, x.fBody.size ≤ 1048576) : ∀ (t pre : List MsgV) (m : Nat) (x : AV) (H : Heap), l = pre ++ t → t.length < m → OwnS 7 H 4 ctyMsg x pre.length (pre.map encMsg).flatten →
  f154_l0 (PR (n + 2) AV) (n + 2) (fun x H => ownTree ti0 E0.tp 31 H x) m x (rowsC encMsg l) (.sc (.int .i64 l.length)) (.sc (.int .i64 pre.length)) H = some (rowsC encMsg l)
 | [], pre, m + 1, x, H, he, hm, hx => by
  rw [List.append_nil] at he
  subst he
  rw [f154_l0]
  simp only [PR_len, PR_bin, PR_cond]
  rw [lss_nat, cond_b, if_neg (by simp)]
  obtain ⟨ids, ho, hno⟩ := own_res (d := 7) (tyS := 31) tyMsgS hx
  rw [ownTree, ho, Option.bind_some, if_pos hno]
 | y :: t, pre, m + 1, x, H, he, hm, hx => by
  have hlt : pre.length < l.length := by rw [he]; simp
  have hy : y ∈ l := by rw [he]; simp
  rw [f154_l0]
  simp only [PR_len, PR_bin, PR_cond, PR_iadr, PR_load, PR_fill, PR_newSl, PR_app, PR_new, PR_store]
  rw [lss_nat, cond_b, if_pos (by simpa using hlt)]
  have hel := fun k => el_ro (β := AV) lenMsg (by decide) pre y t k
  rw [← he] at hel
  rw [hel, ld_rp 4 _ _ _ _ (lenMsg y)]
  refine lw_put rfl (lenMsg _) (fl_leaf (flMsg _)) fun i hi => ?_
  refine lw_ld hi (lenMsg _) ?_
  refine copy_step (β := AV) (n := n + 2) (X0 := [⟨encMsg y, true, true⟩]) (bytes := 56) (z := zzMsg) (r := some (rowsC encMsg l)) hx rfl (vcons (Vw_agg _ (flMsg y)) vnil) (copyMsgF n (by omega) y (hs y hy)) tyMsg (okWMsg 5 y) (flMsg y) (lenMsg y) rfl (by omega) fun x' H' hx' => ?_
  rw [inc_nat _ _ (by omega)]
  have ih := copyMsgs_loop n hn l hl hs t (pre ++ [y]) m x' H' (by rw [he]; simp) (by simpa using hm) (by
   rw [List.length_append, List.length_singleton, List.map_append, List.flatten_append]
   simpa using hx')
  rw [List.length_append, List.length_singleton] at ih
  exact ih
theorem copyMsgsF (n : Nat) (hn : 1048576 < n) (l : List MsgV) (hl : l.length ≤ 1048576) (hs : ∀ x ∈ l, x.fBody.size ≤ 1048576) : tree E0 (n + 3) 31 154 [rowsC encMsg l] = some (rowsC encMsg l) := by
 rw [tree_def, f154_eq, f154]
 simp only [PR_len]
 refine w_len ?_
 exact copyMsgs_loop n hn l hl hs l [] (n + 2) .nl [] rfl (by omega) (OwnS.nil _ _ _ _)
end Go.Proofs.YtdameggfgnpehaaGreatDoor.Abs
set_option linter.unusedVariables false
set_option linter.unusedSimpArgs false
namespace Go.Proofs.YtdameggfgnpehaaGreatDoor.Abs
open Go
def OwnSI (d : Nat) (H : Heap) (w : Nat) (cty : List Nat) (x : AV) (k : Nat) (cells : List AV) (ids : List Nat) : Prop :=
 (x = .nl ∧ k = 0 ∧ cells = [] ∧ ids = []) ∨ ∃ id raw is, ids = id :: is ∧ x = .sl id 0 k w ∧ H[id]? = some ⟨raw, true, true⟩ ∧ raw.length = k * w ∧ OwnC d H (List.replicate k cty).flatten raw cells is ∧ (id :: is).Nodup
theorem OwnSI.nil (d : Nat) (H : Heap) (w : Nat) (cty : List Nat) : OwnSI d H w cty .nl 0 [] [] := .inl ⟨rfl, rfl, rfl, rfl⟩
theorem OwnSI.lt {d : Nat} {H : Heap} {w : Nat} {cty : List Nat} {x : AV} {k : Nat} {cells : List AV} {ids : List Nat} (h : OwnSI d H w cty x k cells ids) : ∀ i ∈ ids, i < H.length := by
 rcases h with ⟨_, _, _, rfl⟩ | ⟨id, raw, is, rfl, _, h2, _, h4, _⟩
 ·intro i hi
  cases hi
 ·intro i hi
  rcases List.mem_cons.1 hi with rfl | hi
  ·exact (List.getElem?_eq_some_iff.1 h2).1
  ·exact h4.lt i hi
theorem OwnSI.nodup {d : Nat} {H : Heap} {w : Nat} {cty : List Nat} {x : AV} {k : Nat} {cells : List AV} {ids : List Nat} (h : OwnSI d H w cty x k cells ids) : ids.Nodup := by
 rcases h with ⟨_, _, _, rfl⟩ | ⟨id, raw, is, rfl, _, h2, _, h4, h5⟩
 ·exact List.nodup_nil
 ·exact h5
theorem OwnSI.frame {d : Nat} {H H' : Heap} {w : Nat} {cty : List Nat} {x : AV} {k : Nat} {cells : List AV} {ids : List Nat} (h : OwnSI d H w cty x k cells ids) (hs : ∀ i ∈ ids, H'[i]? = H[i]?) : OwnSI d H' w cty x k cells ids := by
 rcases h with h | ⟨id, raw, is, rfl, h1, h2, h3, h4, h5⟩
 ·exact .inl h
 ·exact .inr ⟨id, raw, is, rfl, h1, by rw [hs id List.mem_cons_self]; exact h2, h3, h4.frame fun i hi => hs i (List.mem_cons_of_mem _ hi), h5⟩
theorem OwnSI.grow {d : Nat} {H : Heap} {w : Nat} {cty : List Nat} {x : AV} {k : Nat} {cells : List AV} {ids : List Nat} (h : OwnSI d H w cty x k cells ids) (X : List Blk) : OwnSI d (H ++ X) w cty x k cells ids :=
 h.frame fun i hi => List.getElem?_append_left (h.lt i hi)
theorem OwnSI.res {H : Heap} {d w tyS k : Nat} {cty : List Nat} {x : AV} {cells : List AV} {ids : List Nat} (h : OwnSI d H w cty x k cells ids) (hty : ∃ i j, ti0 tyS = some i ∧ ti0 i.elem = some j ∧ j.size = w ∧ j.cty = cty) : ownT ti0 E0.tp H (d + 1) tyS x = some (.ro k cells, ids) := by
 rcases h with ⟨rfl, rfl, rfl, rfl⟩ | ⟨id, raw, is, rfl, rfl, h2, h3, h4, h5⟩
 ·rfl
 ·obtain ⟨i, j, e1, e2, rfl, rfl⟩ := hty
  rw [ownT_sl]
  have ha : isApp H id = true := by simp only [isApp, h2]
  have hr : rdCells H id 0 (k * j.size) = some raw := by
   simp only [rdCells, h2, if_true, Nat.zero_add, h3, Nat.le_refl, List.drop_zero]
   rw [← h3, List.take_length]
  have h4' : ownL (ownT ti0 E0.tp H d) (List.replicate k j.cty).flatten raw = some (cells, is) := h4
  simp only [e1, e2, Option.bind_some, if_true, ha, hr, h4']
variable {β : Type} {n : Nat} {r : Option β}
theorem app_oneI {d : Nat} {H X : Heap} {w bytes : Nat} {cty : List Nat} {x : AV} {k : Nat} {cells er ec : List AV} {ids eids : List Nat} {K : AV → Heap → Option β} (hx : OwnSI d H w cty x k cells ids) (hw : er.length = w) (hl : er.all isLeaf = true)
  (he : OwnC d (H ++ X) cty er ec eids) (hn : eids.Nodup) (hge : ∀ i ∈ eids, H.length ≤ i) (hb : (k + 1) * bytes ≤ 140737488355328)
  (h : ∀ x' H' ids', OwnSI d H' w cty x' (k + 1) (cells ++ ec) ids' → (∀ i ∈ ids', i ∈ ids ∨ H.length ≤ i) → (∀ i, i < H.length → i ∉ ids → H'[i]? = H[i]?) → H.length ≤ H'.length → K x' H' = r) :
  pNewSl 1 w er true (H ++ X) (fun y G => pApp w bytes x y G K) = r := by
 have hy : ∀ G : Heap, content (G ++ [⟨er, true, true⟩]) w (.sl G.length 0 1 w) = some er := by
  intro G
  simp only [content, if_true, Nat.one_mul, rdCells, get_at G _ [], Nat.zero_add, hw, Nat.le_refl, List.drop_zero]
  rw [← hw, List.take_length]
 rcases hx with ⟨rfl, rfl, rfl, rfl⟩ | ⟨id, raw, is, rfl, rfl, h2, h3, h4, h5⟩
 ·simp only [pNewSl, pApp, lenA, Option.bind_some, hy]
  rw [show content (H ++ X ++ [⟨er, true, true⟩]) w .nl = some [] from rfl]
  simp only [Option.bind_some, kill]
  rw [if_pos hb, if_pos hl]
  refine h _ _ (_ :: eids) (.inr ⟨_, er, eids, rfl, rfl, ?_, by simp [hw], ?_, ?_⟩) (fun i hi => .inr ?_) (fun i hi _ => ?_) (by simp)
  ·rw [List.getElem?_append_right (Nat.le_refl _), Nat.sub_self]
   rfl
  ·simp only [Nat.zero_add, List.replicate_one, List.flatten_cons, List.flatten_nil, List.append_nil, List.nil_append]
   exact (he.grow _).grow _
  ·rw [List.nodup_cons]
   refine ⟨fun hm => ?_, hn⟩
   have := he.lt _ hm
   simp at this
   omega
  ·rcases List.mem_cons.1 hi with rfl | hi
   ·simp [Nat.add_assoc]
   ·exact hge i hi
  ·rw [List.append_assoc, List.append_assoc, List.getElem?_append_left hi]
 ·have hid : id < H.length := (List.getElem?_eq_some_iff.1 h2).1
  have hg : (H ++ X ++ [(⟨er, true, true⟩ : Blk)])[id]? = some ⟨raw, true, true⟩ := by
   rw [List.append_assoc, List.getElem?_append_left hid]
   exact h2
  have hcx : content (H ++ X ++ [⟨er, true, true⟩]) w (.sl id 0 k w) = some raw := by
   simp only [content, if_true, rdCells, hg, Nat.zero_add, h3, Nat.le_refl, List.drop_zero]
   rw [← h3, List.take_length]
  simp only [pNewSl, pApp, lenA, Option.bind_some, hy, hcx, kill, hg, if_true]
  rw [if_pos hb, if_pos hl]
  have hn5 := List.nodup_cons.1 h5
  have hne : ∀ i ∈ is, i ≠ id := fun i hi e => hn5.1 (e ▸ hi)
  have hne2 : ∀ i ∈ eids, i ≠ id := fun i hi e => by
   have := hge i hi
   omega
  refine h _ _ (_ :: (is ++ eids)) (.inr ⟨_, raw ++ er, is ++ eids, rfl, rfl, ?_, by simp [h3, hw, Nat.succ_mul], ?_, ?_⟩) (fun i hi => ?_) (fun i hi hni => ?_) (by simp; omega)
  ·rw [List.getElem?_append_right (Nat.le_refl _), Nat.sub_self]
   rfl
  ·have e : (List.replicate (k + 1) cty).flatten = (List.replicate k cty).flatten ++ cty := by
    rw [List.replicate_succ', List.flatten_append]
    simp
   rw [e]
   refine OwnC.append ?_ ?_
   ·refine OwnC.grow (OwnC.frame (H := H ++ X ++ [⟨er, true, true⟩]) ((h4.grow X).grow _) fun i hi => ?_) _
    rw [List.getElem?_set_ne (fun e => hne i hi e.symm)]
   ·refine OwnC.grow (OwnC.frame (H := H ++ X ++ [⟨er, true, true⟩]) (he.grow _) fun i hi => ?_) _
    rw [List.getElem?_set_ne (fun e => hne2 i hi e.symm)]
  ·rw [List.nodup_cons]
   refine ⟨fun hm => ?_, ?_⟩
   ·rcases List.mem_append.1 hm with hm | hm
    ·have := h4.lt _ hm
     simp at this
     omega
    ·have := he.lt _ hm
     simp at this
     omega
   ·rw [List.nodup_append]
    refine ⟨hn5.2, hn, fun a ha b hb e => ?_⟩
    have h1 := h4.lt a ha
    have h2 := hge b hb
    omega
  ·rcases List.mem_cons.1 hi with rfl | hi
   ·right
    simp [Nat.add_assoc]
   ·rcases List.mem_append.1 hi with hi | hi
    ·exact .inl (List.mem_cons_of_mem _ hi)
    ·exact .inr (hge i hi)
  ·have : i ≠ id := fun e => hni (e ▸ List.mem_cons_self)
   rw [List.getElem?_append_left (by simp; omega), List.getElem?_set_ne (fun e => this e.symm), List.append_assoc, List.getElem?_append_left hi]
structure Rec (d : Nat) (H : Heap) (io : Nat) (cty : List Nat) (raw cells : List AV) (ids : List Nat) : Prop where
 blk : H[io]? = some ⟨raw, true, true⟩
 own : OwnC d H cty raw cells ids
 nd : ids.Nodup
 out : io ∉ ids
theorem fill_all {w : Nat} {z ys : List AV} (hz : z.length = w) (hy : ys.length = w) (hl : ys.all isLeaf = true) : fillA z [(0, w, .agg ys)] = some ys := by
 have hc : cellsA (.agg ys) = some ys := by
  show (if ys.all isLeaf then some ys else none) = _
  rw [if_pos hl]
 have hs : splice z 0 ys = ys := by
  unfold splice
  rw [List.take_zero, List.nil_append, List.drop_of_length_le (by rw [hy, hz]; omega), List.append_nil]
 show ((cellsA (.agg ys)).bind fun cs => if cs.length = w then (if 0 + w ≤ z.length then fillA (splice z 0 cs) [] else none) else none) = _
 rw [hc, Option.bind_some, if_pos hy, if_pos (by omega), hs]
 rfl
end Go.Proofs.YtdameggfgnpehaaGreatDoor.Abs
set_option linter.unusedVariables false
set_option linter.unusedSimpArgs false
set_option maxRecDepth 100000
namespace Go.Proofs.YtdameggfgnpehaaGreatDoor.Abs
open Go
variable {β : Type} {n : Nat} {r : Option β}
theorem w_el {α : Type} {w : Nat} {enc : α → List AV} {l pre t : List α} {x : α} {K : AV → Option β} (hw : ∀ x, (enc x).length = w) (h0 : 0 < w) (hl : l = pre ++ x :: t) (h : K (.rp (enc x ++ (t.map enc).flatten)) = r) : pIadr w (rowsC enc l) (.sc (.int .i64 (pre.length : Int))) (fun t => K t) = r := by
 subst hl
 exact (el_ro (β := β) hw h0 pre x t (fun t => K t)).trans h
theorem inst_b (N : Nat) (s : ByteArray) : instT ti0 E0.tp N 43 (bytesC s) = (.sl N 0 s.size 1, [⟨bytesAV s, true, true⟩]) := by
 obtain ⟨i, j, h1, h2, h3, h4⟩ := tyByteS
 show instT ti0 E0.tp N 43 (.ro s.size (bytesAV s)) = _
 simp only [instT, h1, Option.bind_some, h2, Option.getD_some, h3, bytesAV_eq, instL_sc]
theorem inst_msg (N : Nat) (m : MsgV) : instL ti0 E0.tp N ctyMsg (encMsg m) = ([.sc (.string m.fTopic), .sl N 0 m.fBody.size 1, .sc (.int .i64 m.fQos), .sc (.bool m.fRetain)], [⟨bytesAV m.fBody, true, true⟩]) := by
 have h := inst_b N m.fBody
 show instL ti0 E0.tp N [9, 43, 3, 4] [.sc (.string m.fTopic), bytesC m.fBody, .sc (.int .i64 m.fQos), .sc (.bool m.fRetain)] = _
 simp only [instL, List.headD_cons, List.tail_cons, instT_sc, List.length_nil, Nat.add_zero, h, List.nil_append, List.append_nil]
theorem inst_flight (N : Nat) (f : FlightV) : instL ti0 E0.tp N ctyFlight (encFlight f) = ([.sc (.int .i64 f.fId), .sc (.string f.fM.fTopic), .sl N 0 f.fM.fBody.size 1, .sc (.int .i64 f.fM.fQos), .sc (.bool f.fM.fRetain), .sc (.int .i64 f.fSt)], [⟨bytesAV f.fM.fBody, true, true⟩]) := by
 have h := inst_b N f.fM.fBody
 show instL ti0 E0.tp N [3, 9, 43, 3, 4, 3] [.sc (.int .i64 f.fId), .sc (.string f.fM.fTopic), bytesC f.fM.fBody, .sc (.int .i64 f.fM.fQos), .sc (.bool f.fM.fRetain), .sc (.int .i64 f.fSt)] = _
 simp only [instL, List.headD_cons, List.tail_cons, instT_sc, List.length_nil, Nat.add_zero, h, List.nil_append, List.append_nil]
theorem flight_step {te g k : Nat} {H X0 : Heap} {x : AV} {cells : List AV} {ids : List Nat} {args : List AV} {f : FlightV} {K : AV → Heap → Option β} (hx : OwnSI 6 H 6 ctyFlight x k cells ids) (hh : plainF g = false) (hv : args.mapM (viewV (H ++ X0) 8) = some [.agg (encMsg f.fM)]) (ht : tree E0 n te g [.agg (encMsg f.fM)] = some (.agg (encMsg f.fM)))
  (hte : ∃ i, ti0 te = some i ∧ i.cty = ctyMsg) (hb : (k + 1) * 72 ≤ 140737488355328)
  (h : ∀ x' H' ids', OwnSI 6 H' 6 ctyFlight x' (k + 1) (cells ++ encFlight f) ids' → (∀ i ∈ ids', i ∈ ids ∨ H.length ≤ i) → (∀ i, i < H.length → i ∉ ids → H'[i]? = H[i]?) → H.length ≤ H'.length → K x' H' = r) :
  ((PR n β).call te (.fn g [] []) args (H ++ X0) fun t G => (fillA zzFlight [(0, 1, .sc (.int .i64 f.fId)), (1, 4, t), (5, 1, .sc (.int .i64 f.fSt))]).bind fun c => (fillA zzFlight [(0, 6, .agg c)]).bind fun ct => pNewSl 1 6 ct true G fun y G => pApp 6 72 x y G K) = r := by
 obtain ⟨i, hi, hc⟩ := hte
 rw [PR_call hh hv ht, instT_agg, hi, Option.getD_some, hc, inst_msg]
 simp only
 have hf : fillA zzFlight [(0, 1, .sc (.int .i64 f.fId)), (1, 4, .agg [.sc (.string f.fM.fTopic), .sl (H ++ X0).length 0 f.fM.fBody.size 1, .sc (.int .i64 f.fM.fQos), .sc (.bool f.fM.fRetain)]), (5, 1, .sc (.int .i64 f.fSt))] = some [.sc (.int .i64 f.fId), .sc (.string f.fM.fTopic), .sl (H ++ X0).length 0 f.fM.fBody.size 1, .sc (.int .i64 f.fM.fQos), .sc (.bool f.fM.fRetain), .sc (.int .i64 f.fSt)] := rfl
 rw [hf, Option.bind_some, fill_all (w := 6) rfl rfl rfl, Option.bind_some]
 have key := app_oneI (H := H) (X := X0 ++ [⟨bytesAV f.fM.fBody, true, true⟩]) (bytes := 72) (er := (instL ti0 E0.tp (H ++ X0).length ctyFlight (encFlight f)).1) (ec := encFlight f) (eids := List.range' (H ++ X0).length (instL ti0 E0.tp (H ++ X0).length ctyFlight (encFlight f)).2.length) (K := K) (r := r) hx (by rw [inst_flight]; rfl) (by rw [inst_flight]; rfl) (by
   have := own_new (d := 6) (H := H ++ X0) (okWFlight 4 f)
   rw [inst_flight] at this ⊢
   rwa [List.append_assoc] at this) List.nodup_range' (fun j hj => by
   rw [List.mem_range'_1] at hj
   have := hj.1
   simp at this
   omega) hb h
 rw [inst_flight, ← List.append_assoc] at key
 exact key
structure OutI (H : Heap) (io i2 i1 : Nat) (o : OutV) (x q : AV) (k : Nat) (cells : List AV) (ids qids : List Nat) : Prop where
 ho : H[io]? = some ⟨[.sc (.int .i64 o.fLast), x, q], true, true⟩
 hs : OwnSI 6 H 6 ctyFlight x k cells ids
 hq : ownT ti0 E0.tp H 7 31 q = some (rowsC encMsg o.fQ, qids)
 qn : qids.Nodup
 hz : ∃ z2, H[i2]? = some ⟨z2, true, true⟩ ∧ z2.length = 3
 src : H[i1]? = some ⟨encOut o, true, true⟩
 ne : io ≠ i2
 ne1 : i1 ≠ io
 ne2 : i1 ≠ i2
 o1 : io ∉ ids
 o2 : io ∉ qids
 z1 : i2 ∉ ids
 z2 : i2 ∉ qids
 s1 : i1 ∉ ids
 dj : ∀ i ∈ qids, i ∉ ids
theorem OutI.lt {H : Heap} {io i2 i1 : Nat} {o : OutV} {x q : AV} {k : Nat} {cells : List AV} {ids qids : List Nat} (h : OutI H io i2 i1 o x q k cells ids qids) : io < H.length ∧ i2 < H.length ∧ i1 < H.length ∧ ∀ i ∈ qids, i < H.length := by
 obtain ⟨z2, hz, _⟩ := h.hz
 exact ⟨(List.getElem?_eq_some_iff.1 h.ho).1, (List.getElem?_eq_some_iff.1 hz).1, (List.getElem?_eq_some_iff.1 h.src).1, own_lt 7 _ _ _ h.hq⟩
theorem OutI.put {H H' : Heap} {io i2 i1 : Nat} {o : OutV} {x x' q : AV} {k : Nat} {cells ec : List AV} {ids ids' qids : List Nat} {K : Heap → Option β} (h : OutI H io i2 i1 o x q k cells ids qids)
  (h1 : OwnSI 6 H' 6 ctyFlight x' (k + 1) (cells ++ ec) ids') (h2 : ∀ i ∈ ids', i ∈ ids ∨ H.length ≤ i) (h3 : ∀ i, i < H.length → i ∉ ids → H'[i]? = H[i]?) (hk : ∀ H'', OutI H'' io i2 i1 o x' q (k + 1) (cells ++ ec) ids' qids → K H'' = r) :
  pStore 1 (.ptr io (0 + 1)) x' H' K = r := by
 obtain ⟨l1, l2, l3, l4⟩ := h.lt
 have hlf : cellsA x' = some [x'] := by
  rcases h1 with ⟨_, h0, _⟩ | ⟨id, raw, is, _, rfl, _⟩
  ·omega
  ·rfl
 have ho : H'[io]? = some ⟨[.sc (.int .i64 o.fLast), x, q], true, true⟩ := by rw [h3 io l1 h.o1]; exact h.ho
 have hio : io < H'.length := (List.getElem?_eq_some_iff.1 ho).1
 rw [st_at 1 io (0 + 1) x' _ [x'] H' K ho hlf rfl (Nat.le_of_ble_eq_true rfl) rfl]
 have hni : io ∉ ids' := fun hm => by
  rcases h2 io hm with h' | h'
  ·exact h.o1 h'
  ·omega
 refine hk _ ⟨?_, ?_, ?_, h.qn, ?_, ?_, h.ne, h.ne1, h.ne2, hni, h.o2, ?_, h.z2, ?_, ?_⟩
 ·rw [List.getElem?_set_self hio]
  rfl
 ·refine h1.frame fun i hi => ?_
  rw [List.getElem?_set_ne (fun (e : io = i) => hni (e ▸ hi))]
 ·refine own_frame 7 _ _ _ h.hq fun i hi => ?_
  rw [List.getElem?_set_ne (fun (e : io = i) => h.o2 (e ▸ hi)), h3 i (l4 i hi) (h.dj i hi)]
 ·obtain ⟨z2, hz, hl⟩ := h.hz
  exact ⟨z2, by rw [List.getElem?_set_ne h.ne, h3 i2 l2 h.z1]; exact hz, hl⟩
 ·rw [List.getElem?_set_ne (fun e => h.ne1 e.symm), h3 i1 l3 h.s1]
  exact h.src
 ·intro hm
  rcases h2 i2 hm with h' | h'
  ·exact h.z1 h'
  ·omega
 ·intro hm
  rcases h2 i1 hm with h' | h'
  ·exact h.s1 h'
  ·omega
 ·intro i hi hm
  rcases h2 i hm with h' | h'
  ·exact h.dj i hi h'
  ·have := l4 i hi
   omega
theorem OutI.fin {H : Heap} {io i2 i1 : Nat} {o : OutV} {x q : AV} {ids qids : List Nat} (h : OutI H io i2 i1 o x q o.fFl.length (o.fFl.map encFlight).flatten ids qids) :
  (pLoad true 3 (.ptr io 0) H fun t => pStore 3 (.ptr i2 0) t H fun H => pLoad true 3 (.ptr i2 0) H fun r0 => ownTree ti0 E0.tp 33 H r0) = some (.agg (encOut o)) := by
 obtain ⟨l1, l2, l3, l4⟩ := h.lt
 obtain ⟨z2, hz, hzl⟩ := h.hz
 have hx : isLeaf x = true := by
  rcases h.hs with ⟨rfl, _⟩ | ⟨id, raw, is, _, rfl, _⟩ <;> rfl
 have hq : isLeaf q = true := by
  have := h.hq
  cases q with
  | sc v => cases this
  | nl => rfl
  | sl => rfl
  | agg cs =>
   rw [ownT_agg] at this
   simp only [Option.bind_eq_some_iff] at this
   obtain ⟨_, _, _, _, h3⟩ := this
   cases h3
  | tup cs =>
   rw [ownT_tup] at this
   simp only [Option.bind_eq_some_iff] at this
   obtain ⟨_, _, _, _, h3⟩ := this
   cases h3
  | _ => simp [ownT] at this
 refine w_ldA (ds := [.sc (.int .i64 o.fLast), x, q]) h.ho (Nat.le_of_ble_eq_true rfl) rfl ?_
 have hc : cellsA (.agg [.sc (.int .i64 o.fLast), x, q]) = some [.sc (.int .i64 o.fLast), x, q] := by
  show (if (true && (isLeaf x && (isLeaf q && true))) = true then _ else none) = _
  rw [hx, hq]
  rfl
 rw [st_at 3 i2 0 _ ⟨z2, true, true⟩ [.sc (.int .i64 o.fLast), x, q] H _ hz hc rfl (by show 0 + 3 ≤ z2.length; omega) rfl]
 have hs : splice z2 0 [.sc (.int .i64 o.fLast), x, q] = [.sc (.int .i64 o.fLast), x, q] := by
  unfold splice
  rw [List.take_zero, List.nil_append, List.drop_of_length_le (by rw [hzl]; exact Nat.le_refl _), List.append_nil]
 simp only [hs]
 refine w_ldA (ds := [.sc (.int .i64 o.fLast), x, q]) (cs := [.sc (.int .i64 o.fLast), x, q]) (by rw [List.getElem?_set_self l2]) (Nat.le_of_ble_eq_true rfl) rfl ?_
 have e1 := (h.hs.frame (H' := H.set i2 ⟨[.sc (.int .i64 o.fLast), x, q], true, true⟩) fun i hi => by rw [List.getElem?_set_ne (fun (e : i2 = i) => h.z1 (e ▸ hi))]).res tyFlightS
 have e2 := own_frame (H' := H.set i2 ⟨[.sc (.int .i64 o.fLast), x, q], true, true⟩) 7 _ _ _ h.hq fun i hi => by rw [List.getElem?_set_ne (fun (e : i2 = i) => h.z2 (e ▸ hi))]
 obtain ⟨i, hi, hcy⟩ := tyOut
 rw [ownTree, ownT_agg, hi, Option.bind_some, hcy]
 simp only [ctyOut, ownL, ownT_sc, e1, e2, Option.bind_some, List.nil_append, List.append_nil]
 rw [if_pos]
 ·rfl
 ·rw [List.nodup_append]
  exact ⟨h.hs.nodup, h.qn, fun a ha b hb e => h.dj b hb (e ▸ ha)⟩
def smOutC (o : OutV) : Prop := (o.fFl.length ≤ 1048576 ∧ ∀ x ∈ o.fFl, x.fM.fBody.size ≤ 1048576) ∧ (o.fQ.length ≤ 1048576 ∧ ∀ x ∈ o.fQ, x.fBody.size ≤ 1048576)
theorem l13_loop (n : Nat) (hn : 1048576 < n) (o : OutV) (hs : smOutC o) (io i2 i1 : Nat) (q : AV) (qids : List Nat) : ∀ (t pre : List FlightV) (m : Nat) (x : AV) (H : Heap) (ids : List Nat), o.fFl = pre ++ t → t.length < m → OutI H io i2 i1 o x q pre.length (pre.map encFlight).flatten ids qids →
  f104_l0 (PR (n + 3) AV) (n + 3) (fun x H => ownTree ti0 E0.tp 33 H x) m (.ptr i1 0) (.ptr i2 0) (.ptr io 0) (.sc (.int .i64 pre.length)) H = some (.agg (encOut o))
 | [], pre, m + 1, x, H, ids, he, hm, hi => by
  rw [List.append_nil] at he
  show (PR (n + 3) AV).fadr _ _ _ = _
  simp only [PR_fadr, PR_load, PR_len, PR_bin, PR_cond, PR_store]
  refine w_fadr ?_
  refine w_ld (c := rowsC encFlight o.fFl) hi.src (Nat.le_of_ble_eq_true rfl) rfl ?_
  refine w_len ?_
  rw [lss_nat, cond_b, if_neg (by rw [he]; simp)]
  subst he
  exact hi.fin
 | y :: t, pre, m + 1, x, H, ids, he, hm, hi => by
  have hlt : pre.length < o.fFl.length := by rw [he]; simp
  have hy : y.fM.fBody.size ≤ 1048576 := hs.1.2 y (by rw [he]; simp)
  have hlen := hs.1.1
  show (PR (n + 3) AV).fadr _ _ _ = _
  simp only [PR_fadr, PR_load, PR_len, PR_bin, PR_cond, PR_store, PR_iadr, PR_fill, PR_newSl, PR_app]
  refine w_fadr ?_
  refine w_ld (c := rowsC encFlight o.fFl) hi.src (Nat.le_of_ble_eq_true rfl) rfl ?_
  refine w_len ?_
  rw [lss_nat, cond_b, if_pos (by simpa using hlt)]
  refine w_fadr ?_
  refine w_ld (c := x) hi.ho (Nat.le_of_ble_eq_true rfl) rfl ?_
  refine w_fadr ?_
  refine w_ld (c := rowsC encFlight o.fFl) hi.src (Nat.le_of_ble_eq_true rfl) rfl ?_
  refine w_el lenFlight (by decide) he ?_
  refine w_fadr_rp ?_
  refine w_ld_rp (c := .sc (.int .i64 y.fId)) rfl ?_
  refine w_fadr ?_
  refine w_ld (c := rowsC encFlight o.fFl) hi.src (Nat.le_of_ble_eq_true rfl) rfl ?_
  refine w_el lenFlight (by decide) he ?_
  refine w_fadr_rp ?_
  refine w_ldA_rp (ds := encMsg y.fM) (Nat.le_of_ble_eq_true rfl) rfl ?_
  refine w_fadr ?_
  refine w_ld (c := rowsC encFlight o.fFl) hi.src (Nat.le_of_ble_eq_true rfl) rfl ?_
  refine w_el lenFlight (by decide) he ?_
  refine w_fadr_rp ?_
  refine w_ld_rp (c := .sc (.int .i64 y.fSt)) rfl ?_
  have hst := fun K h => flight_step (β := AV) (n := n + 3) (X0 := []) (f := y) (K := K) (r := some (.agg (encOut o))) hi.hs rfl (vcons (Vw_agg _ (flMsg _)) vnil) (l12MsgF (n + 2) y.fM hy) tyMsg (by omega) h
  simp only [List.append_nil] at hst
  refine hst _ fun x' H' ids' h1 h2 h3 h4 => ?_
  refine w_fadr ?_
  refine hi.put h1 h2 h3 fun H'' hi' => ?_
  rw [inc_nat _ _ (by omega)]
  have ih := l13_loop n hn o hs io i2 i1 q qids t (pre ++ [y]) m x' H'' ids' (by rw [he]; simp) (by simpa using hm) (by
   rw [List.length_append, List.length_singleton, List.map_append, List.flatten_append]
   simpa using hi')
  rw [List.length_append, List.length_singleton] at ih
  exact ih
theorem copyOut_loop (n : Nat) (hn : 1048576 < n) (o : OutV) (hs : smOutC o) (io i2 i1 : Nat) (q : AV) (qids : List Nat) : ∀ (t pre : List FlightV) (m : Nat) (x : AV) (H : Heap) (ids : List Nat), o.fFl = pre ++ t → t.length < m → OutI H io i2 i1 o x q pre.length (pre.map encFlight).flatten ids qids →
  f108_l0 (PR (n + 3) AV) (n + 3) (fun x H => ownTree ti0 E0.tp 33 H x) m (.ptr i2 0) (.ptr io 0) (rowsC encFlight o.fFl) (.sc (.int .i64 o.fFl.length)) (.sc (.int .i64 pre.length)) H = some (.agg (encOut o))
 | [], pre, m + 1, x, H, ids, he, hm, hi => by
  rw [List.append_nil] at he
  show (PR (n + 3) AV).bin _ _ _ _ = _
  simp only [PR_fadr, PR_load, PR_len, PR_bin, PR_cond, PR_store]
  rw [lss_nat, cond_b, if_neg (by rw [he]; simp)]
  subst he
  exact hi.fin
 | y :: t, pre, m + 1, x, H, ids, he, hm, hi => by
  have hlt : pre.length < o.fFl.length := by rw [he]; simp
  have hy : y.fM.fBody.size ≤ 1048576 := hs.1.2 y (by rw [he]; simp)
  have hlen := hs.1.1
  obtain ⟨l1, l2, l3, l4⟩ := hi.lt
  show (PR (n + 3) AV).bin _ _ _ _ = _
  simp only [PR_fadr, PR_load, PR_len, PR_bin, PR_cond, PR_store, PR_iadr, PR_fill, PR_newSl, PR_app, PR_new]
  rw [lss_nat, cond_b, if_pos (by simpa using hlt)]
  refine w_el lenFlight (by decide) he ?_
  refine w_ldA_rp (ds := encFlight y) (Nat.le_of_ble_eq_true rfl) rfl ?_
  refine lw_put rfl (lenFlight _) (fl_leaf (flFlight _)) fun i5 h5 => ?_
  refine w_fadr ?_
  refine w_ld (c := x) (blk_grow hi.ho _) (Nat.le_of_ble_eq_true rfl) rfl ?_
  refine w_fadr ?_
  refine w_ld (c := .sc (.int .i64 y.fId)) h5 (Nat.le_of_ble_eq_true rfl) rfl ?_
  refine w_fadr ?_
  refine w_ldA (ds := encMsg y.fM) h5 (Nat.le_of_ble_eq_true rfl) rfl ?_
  refine w_fadr ?_
  refine w_ld (c := .sc (.int .i64 y.fSt)) h5 (Nat.le_of_ble_eq_true rfl) rfl ?_
  refine flight_step (β := AV) (n := n + 3) (X0 := [⟨encFlight y, true, true⟩]) (f := y) (r := some (.agg (encOut o))) hi.hs rfl (vcons (Vw_agg _ (flMsg _)) vnil) (copyMsgF (n + 1) (by omega) y.fM hy) tyMsg (by omega) fun x' H' ids' h1 h2 h3 h4 => ?_
  refine w_fadr ?_
  refine hi.put h1 h2 h3 fun H'' hi' => ?_
  rw [inc_nat _ _ (by omega)]
  have ih := copyOut_loop n hn o hs io i2 i1 q qids t (pre ++ [y]) m x' H'' ids' (by rw [he]; simp) (by simpa using hm) (by
   rw [List.length_append, List.length_singleton, List.map_append, List.flatten_append]
   simpa using hi')
  rw [List.length_append, List.length_singleton] at ih
  exact ih
theorem outI_a (o : OutV) (A : AV × List Blk) (hA : instT ti0 E0.tp 2 31 (rowsC encMsg o.fQ) = A) : OutI (([⟨encOut o, true, true⟩, ⟨zzOut, true, true⟩] ++ A.2 ++ [⟨zzOut, true, true⟩] : Heap).set (2 + A.2.length) ⟨[.sc (.int .i64 o.fLast), .nl, A.1], true, true⟩) (2 + A.2.length) 1 0 o .nl A.1 0 [] [] (List.range' 2 A.2.length) := by
 have hlen : ([⟨encOut o, true, true⟩, ⟨zzOut, true, true⟩] ++ A.2 : Heap).length = 2 + A.2.length := by simp; omega
 have e : ([⟨encOut o, true, true⟩, ⟨zzOut, true, true⟩] ++ A.2 ++ [⟨zzOut, true, true⟩] : Heap).set (2 + A.2.length) ⟨[.sc (.int .i64 o.fLast), .nl, A.1], true, true⟩ = [⟨encOut o, true, true⟩, ⟨zzOut, true, true⟩] ++ A.2 ++ [⟨[.sc (.int .i64 o.fLast), .nl, A.1], true, true⟩] := by
  rw [← hlen]
  exact set_at _ _ _ []
 rw [e]
 refine ⟨?_, OwnSI.nil _ _ _ _, ?_, List.nodup_range', ⟨zzOut, rfl, rfl⟩, rfl, by omega, by omega, by decide, by simp, ?_, by simp, ?_, by simp, by simp⟩
 ·rw [← hlen]
  exact get_at _ _ []
 ·rw [← hA]
  refine own_inst 7 _ _ 2 (okW_rows (d := 6) lenMsg tyMsgS (okWMsg 4) o.fQ) ?_
  rw [hA]
  exact Lies_in [(⟨encOut o, true, true⟩ : Blk), ⟨zzOut, true, true⟩] A.2 _
 ·rw [List.mem_range'_1]; omega
 ·rw [List.mem_range'_1]; omega
theorem outI_b (o : OutV) (A : AV × List Blk) (hA : instT ti0 E0.tp 3 31 (rowsC encMsg o.fQ) = A) : OutI (([⟨encOut o, true, true⟩, ⟨zzOut, true, true⟩, ⟨zzOut, true, true⟩] ++ A.2 : Heap).set 2 ⟨[.sc (.int .i64 o.fLast), .nl, A.1], true, true⟩) 2 1 0 o .nl A.1 0 [] [] (List.range' 3 A.2.length) := by
 refine ⟨rfl, OwnSI.nil _ _ _ _, ?_, List.nodup_range', ⟨zzOut, rfl, rfl⟩, rfl, by decide, by decide, by decide, by simp, ?_, by simp, ?_, by simp, by simp⟩
 ·rw [← hA]
  refine own_inst 7 _ _ 3 (okW_rows (d := 6) lenMsg tyMsgS (okWMsg 4) o.fQ) ?_
  rw [hA]
  exact Lies_end [(⟨encOut o, true, true⟩ : Blk), ⟨zzOut, true, true⟩, (⟨[.sc (.int .i64 o.fLast), .nl, A.1], true, true⟩ : Blk)] A.2
 ·rw [List.mem_range'_1]; omega
 ·rw [List.mem_range'_1]; omega
theorem leaf_inst (N : Nat) (o : OutV) : isLeaf (instT ti0 E0.tp N 31 (rowsC encMsg o.fQ)).1 = true := rfl
theorem l13CopyF (n : Nat) (hn : 1048576 < n) (o : OutV) (hs : smOutC o) : tree E0 (n + 4) 33 104 [.agg (encOut o)] = some (.agg (encOut o)) := by
 rw [tree_def, f104_eq, f104]
 simp only [PR_box, PR_new, PR_fadr, PR_load, PR_both, PR_fill, PR_store, pNew]
 rw [box_fl _ _ _ (flOut o)]
 simp only [List.length_nil, List.nil_append, List.length_cons, Nat.zero_add]
 have hz : ([⟨[.sc (.int .i64 0), .nl, .nl], true, true⟩] : Heap) = [⟨zzOut, true, true⟩] := rfl
 rw [hz]
 have hH : ([⟨encOut o, true, true⟩] ++ [⟨zzOut, true, true⟩] : Heap)[0]? = some ⟨encOut o, true, true⟩ := rfl
 refine w_fadr ?_
 refine w_ld (c := .sc (.int .i64 o.fLast)) hH (Nat.le_of_ble_eq_true rfl) rfl ?_
 refine w_fadr ?_
 refine w_ld (c := rowsC encMsg o.fQ) hH (Nat.le_of_ble_eq_true rfl) rfl ?_
 refine pBoth_eq ?_ ?_
 ·rw [PR_call (vs := [rowsC encMsg o.fQ]) rfl (vcons (Vw_ro _ _ _) vnil) (l12CopyF n hn o.fQ hs.2.1 hs.2.2)]
  have hl := leaf_inst 2 o
  generalize hA : instT ti0 E0.tp 2 31 (rowsC encMsg o.fQ) = A at hl
  have hA' : instT ti0 E0.tp ([⟨encOut o, true, true⟩] ++ [⟨zzOut, true, true⟩] : Heap).length 31 (rowsC encMsg o.fQ) = A := hA
  rw [hA']
  have hc1 : cellsA A.1 = some [A.1] := by
   generalize A.1 = y at hl
   cases y <;> first | (simp [isLeaf] at hl; done) | (simp only [cellsA, hl, if_true]) | rfl
  refine w_fill (cs := [.sc (.int .i64 o.fLast), .nl, A.1]) (by simp only [fillA, hc1]; rfl) ?_
  have hlen : ([⟨encOut o, true, true⟩] ++ [⟨zzOut, true, true⟩] ++ A.2 : Heap).length = 2 + A.2.length := by simp; omega
  have hg : ([⟨encOut o, true, true⟩] ++ [⟨zzOut, true, true⟩] ++ A.2 ++ [⟨zzOut, true, true⟩] : Heap)[2 + A.2.length]? = some ⟨zzOut, true, true⟩ := by
   rw [← hlen]
   exact get_at _ _ []
  have hc : cellsA (.agg [.sc (.int .i64 o.fLast), .nl, A.1]) = some [.sc (.int .i64 o.fLast), .nl, A.1] := by
   show (if (true && (true && (isLeaf A.1 && true))) = true then _ else none) = _
   rw [hl]
   rfl
  rw [hlen, st_at 3 (2 + A.2.length) 0 _ ⟨zzOut, true, true⟩ [.sc (.int .i64 o.fLast), .nl, A.1] _ _ hg hc rfl (Nat.le_of_ble_eq_true rfl) rfl]
  exact l13_loop n hn o hs (2 + A.2.length) 1 0 A.1 _ o.fFl [] (n + 3) .nl _ [] rfl (by have := hs.1.1; omega) (outI_a o A hA)
 ·rw [PR_call (vs := [rowsC encMsg o.fQ]) rfl (vcons (Vw_ro _ _ _) vnil) (l12CopyF n hn o.fQ hs.2.1 hs.2.2)]
  have hl := leaf_inst 3 o
  generalize hA : instT ti0 E0.tp 3 31 (rowsC encMsg o.fQ) = A at hl
  have hA' : instT ti0 E0.tp ([⟨encOut o, true, true⟩] ++ [⟨zzOut, true, true⟩] ++ [⟨zzOut, true, true⟩] : Heap).length 31 (rowsC encMsg o.fQ) = A := hA
  rw [hA']
  have hc1 : cellsA A.1 = some [A.1] := by
   generalize A.1 = y at hl
   cases y <;> first | (simp [isLeaf] at hl; done) | (simp only [cellsA, hl, if_true]) | rfl
  refine w_fill (cs := [.sc (.int .i64 o.fLast), .nl, A.1]) (by simp only [fillA, hc1]; rfl) ?_
  have hc : cellsA (.agg [.sc (.int .i64 o.fLast), .nl, A.1]) = some [.sc (.int .i64 o.fLast), .nl, A.1] := by
   show (if (true && (true && (isLeaf A.1 && true))) = true then _ else none) = _
   rw [hl]
   rfl
  rw [show ([⟨encOut o, true, true⟩] ++ [⟨zzOut, true, true⟩] : Heap).length = 2 from rfl]
  rw [st_at 3 2 0 _ ⟨zzOut, true, true⟩ [.sc (.int .i64 o.fLast), .nl, A.1] _ _ rfl hc rfl (Nat.le_of_ble_eq_true rfl) rfl]
  exact l13_loop n hn o hs 2 1 0 A.1 _ o.fFl [] (n + 3) .nl _ [] rfl (by have := hs.1.1; omega) (outI_b o A hA)
theorem copyOutF (n : Nat) (hn : 1048576 < n) (o : OutV) (hs : smOutC o) : tree E0 (n + 4) 33 108 [.agg (encOut o)] = some (.agg (encOut o)) := by
 rw [tree_def, f108_eq, f108]
 simp only [PR_box, PR_new, PR_fadr, PR_load, PR_both, PR_fill, PR_store, PR_len, pNew]
 rw [box_fl _ _ _ (flOut o)]
 simp only [List.length_nil, List.nil_append, List.length_cons, Nat.zero_add]
 have hz : ([⟨[.sc (.int .i64 0), .nl, .nl], true, true⟩] : Heap) = [⟨zzOut, true, true⟩] := rfl
 rw [hz]
 have hH : ([⟨encOut o, true, true⟩] ++ [⟨zzOut, true, true⟩] : Heap)[0]? = some ⟨encOut o, true, true⟩ := rfl
 refine w_fadr ?_
 refine w_ld (c := .sc (.int .i64 o.fLast)) hH (Nat.le_of_ble_eq_true rfl) rfl ?_
 refine w_fadr ?_
 refine w_ld (c := rowsC encMsg o.fQ) hH (Nat.le_of_ble_eq_true rfl) rfl ?_
 refine pBoth_eq ?_ ?_
 ·rw [PR_call (vs := [rowsC encMsg o.fQ]) rfl (vcons (Vw_ro _ _ _) vnil) (copyMsgsF n hn o.fQ hs.2.1 hs.2.2)]
  have hl := leaf_inst 2 o
  generalize hA : instT ti0 E0.tp 2 31 (rowsC encMsg o.fQ) = A at hl
  have hA' : instT ti0 E0.tp ([⟨encOut o, true, true⟩] ++ [⟨zzOut, true, true⟩] : Heap).length 31 (rowsC encMsg o.fQ) = A := hA
  rw [hA']
  have hc1 : cellsA A.1 = some [A.1] := by
   generalize A.1 = y at hl
   cases y <;> first | (simp [isLeaf] at hl; done) | (simp only [cellsA, hl, if_true]) | rfl
  refine w_fill (cs := [.sc (.int .i64 o.fLast), .nl, A.1]) (by simp only [fillA, hc1]; rfl) ?_
  have hlen : ([⟨encOut o, true, true⟩] ++ [⟨zzOut, true, true⟩] ++ A.2 : Heap).length = 2 + A.2.length := by simp; omega
  have hg : ([⟨encOut o, true, true⟩] ++ [⟨zzOut, true, true⟩] ++ A.2 ++ [⟨zzOut, true, true⟩] : Heap)[2 + A.2.length]? = some ⟨zzOut, true, true⟩ := by
   rw [← hlen]
   exact get_at _ _ []
  have hc : cellsA (.agg [.sc (.int .i64 o.fLast), .nl, A.1]) = some [.sc (.int .i64 o.fLast), .nl, A.1] := by
   show (if (true && (true && (isLeaf A.1 && true))) = true then _ else none) = _
   rw [hl]
   rfl
  rw [hlen, st_at 3 (2 + A.2.length) 0 _ ⟨zzOut, true, true⟩ [.sc (.int .i64 o.fLast), .nl, A.1] _ _ hg hc rfl (Nat.le_of_ble_eq_true rfl) rfl]
  have hI := outI_a o A hA
  refine w_fadr ?_
  refine w_ld (c := rowsC encFlight o.fFl) hI.src (Nat.le_of_ble_eq_true rfl) rfl ?_
  refine w_len ?_
  exact copyOut_loop n hn o hs (2 + A.2.length) 1 0 A.1 _ o.fFl [] (n + 3) .nl _ [] rfl (by have := hs.1.1; omega) hI
 ·rw [PR_call (vs := [rowsC encMsg o.fQ]) rfl (vcons (Vw_ro _ _ _) vnil) (copyMsgsF n hn o.fQ hs.2.1 hs.2.2)]
  have hl := leaf_inst 3 o
  generalize hA : instT ti0 E0.tp 3 31 (rowsC encMsg o.fQ) = A at hl
  have hA' : instT ti0 E0.tp ([⟨encOut o, true, true⟩] ++ [⟨zzOut, true, true⟩] ++ [⟨zzOut, true, true⟩] : Heap).length 31 (rowsC encMsg o.fQ) = A := hA
  rw [hA']
  have hc1 : cellsA A.1 = some [A.1] := by
   generalize A.1 = y at hl
   cases y <;> first | (simp [isLeaf] at hl; done) | (simp only [cellsA, hl, if_true]) | rfl
  refine w_fill (cs := [.sc (.int .i64 o.fLast), .nl, A.1]) (by simp only [fillA, hc1]; rfl) ?_
  have hc : cellsA (.agg [.sc (.int .i64 o.fLast), .nl, A.1]) = some [.sc (.int .i64 o.fLast), .nl, A.1] := by
   show (if (true && (true && (isLeaf A.1 && true))) = true then _ else none) = _
   rw [hl]
   rfl
  rw [show ([⟨encOut o, true, true⟩] ++ [⟨zzOut, true, true⟩] : Heap).length = 2 from rfl]
  rw [st_at 3 2 0 _ ⟨zzOut, true, true⟩ [.sc (.int .i64 o.fLast), .nl, A.1] _ _ rfl hc rfl (Nat.le_of_ble_eq_true rfl) rfl]
  have hI := outI_b o A hA
  refine w_fadr ?_
  refine w_ld (c := rowsC encFlight o.fFl) hI.src (Nat.le_of_ble_eq_true rfl) rfl ?_
  refine w_len ?_
  exact copyOut_loop n hn o hs 2 1 0 A.1 _ o.fFl [] (n + 3) .nl _ [] rfl (by have := hs.1.1; omega) hI
end Go.Proofs.YtdameggfgnpehaaGreatDoor.Abs
set_option linter.unusedVariables false
set_option linter.unusedSimpArgs false
set_option maxRecDepth 100000
namespace Go.Proofs.YtdameggfgnpehaaGreatDoor.Abs
open Go
variable {α : Type}
theorem wfv_fl : ∀ (cs : List AV) (fs : List MF), wfL fs cs → fs.all isV = true → cs.all isFl = true
 | [], fs, _, _ => rfl
 | c :: cs, [], hw, _ => absurd rfl hw.1
 | c :: cs, f :: fs, hw, hv => by
  obtain ⟨h1, h2⟩ := wfL_cons.1 hw
  rw [List.all_cons, Bool.and_eq_true] at hv
  rw [List.all_cons, wfv_fl cs fs h2 hv.2, Bool.and_true]
  cases c with
  | sc v => cases f <;> first | exact h1 | (exfalso; simpa [isV] using hv.1) | exact h1.elim
  | ro m cells => cases f <;> first | rfl | exact h1.elim
  | _ => exact h1.elim
theorem cnt_cc {f : MF} {fs : List MF} {c : AV} {cs : List AV} {a b : Nat} (h1 : cntF f c = a) (h2 : cntL fs cs = b) : cntL (f :: fs) (c :: cs) = a + b := by
 subst h1
 subst h2
 rfl
theorem mk_txt (n : Nat) (hn : 1048576 < n) : TxtOk (n + 1) 9 98 := txt_ok (n := n) rfl hn (fun kk => f98_l0 (PR n AV) n kk) (fun kk m k s H => rfl) (fun a H kk => f98_eq n a H kk)
def fdByteS : List FD := [⟨.byt, [], 0⟩]
def mfByteS : List MF := fdByteS.map FD.f
theorem mk_ByteS (n : Nat) (hn : 1048576 < n) : MarkOk (n + 2) 72 43 mfByteS :=
 mark_ok (n := n + 1) (tI := 3) (w := 1) (cty := [5]) (fds := fdByteS) rfl rfl (mk_txt n hn) ⟨rfl, trivial, trivial⟩ rfl ⟨_, _, rfl, rfl, rfl, rfl⟩ (by omega) (fun β kk => f72_l0 (PR (n + 1) β) (n + 1) kk) (fun β kk m a k i H => rfl) (fun β a b H kk => f72_eq (n + 1) a b H kk)
theorem hd_ByteS (n : Nat) (hn : 1048576 < n) : HeldOk (n + 2) 101 mfByteS :=
 held_ok (n := n + 1) (tI := 3) (w := 1) (fds := fdByteS) rfl (mk_txt n hn) ⟨rfl, trivial, trivial⟩ rfl (by decide) (by omega) (fun kk => f101_l0 (PR (n + 1) AV) (n + 1) kk) (fun kk m a k i H => rfl) (fun a b H kk => f101_eq (n + 1) a b H kk)
def fdIntS : List FD := [⟨.int, [], 0⟩]
def mfIntS : List MF := fdIntS.map FD.f
theorem mk_IntS (n : Nat) (hn : 1048576 < n) : MarkOk (n + 2) 64 26 mfIntS :=
 mark_ok (n := n + 1) (tI := 3) (w := 1) (cty := [3]) (fds := fdIntS) rfl rfl (mk_txt n hn) ⟨rfl, trivial, trivial⟩ rfl ⟨_, _, rfl, rfl, rfl, rfl⟩ (by omega) (fun β kk => f64_l0 (PR (n + 1) β) (n + 1) kk) (fun β kk m a k i H => rfl) (fun β a b H kk => f64_eq (n + 1) a b H kk)
theorem hd_IntS (n : Nat) (hn : 1048576 < n) : HeldOk (n + 2) 65 mfIntS :=
 held_ok (n := n + 1) (tI := 3) (w := 1) (fds := fdIntS) rfl (mk_txt n hn) ⟨rfl, trivial, trivial⟩ rfl (by decide) (by omega) (fun kk => f65_l0 (PR (n + 1) AV) (n + 1) kk) (fun kk m a k i H => rfl) (fun a b H kk => f65_eq (n + 1) a b H kk)
def fdStringS : List FD := [⟨.str, [], 0⟩]
def mfStringS : List MF := fdStringS.map FD.f
theorem wf_bytes (s : ByteArray) (h : s.size ≤ 1048576) : wfF (.sub mfByteS) (bytesC s) := by
 refine ⟨h, by rw [bytesAV_len]; show _ = s.size * 1; omega, ?_⟩
 have key : ∀ l : List UInt8, wfL (repF l.length mfByteS) (l.map fun b => .sc (.int .u8 b.toNat)) := by
  intro l
  induction l with
  | nil => rfl
  | cons b l ih =>
   rw [List.length_cons, repF_succ, List.map_cons]
   exact wfL_cons.2 ⟨trivial, ih⟩
 have := key s.data.toList
 rwa [show s.data.toList.length = s.size by simp] at this
theorem cnt_flat (f : MF) (e : α → Value) (h : ∀ x, cntF f (.sc (e x)) = 1) : ∀ l : List α, cntL (repF l.length [f]) (l.map fun x => .sc (e x)) = l.length
 | [] => rfl
 | x :: l => by
  rw [List.length_cons, repF_succ, List.map_cons]
  show cntF f (.sc (e x)) + cntL (repF l.length [f]) _ = _
  rw [h, cnt_flat f e h l]
  omega
theorem cnt_bytes (s : ByteArray) : cntF (.sub mfByteS) (bytesC s) = s.size := by
 have := cnt_flat .byt (fun b : UInt8 => .int .u8 b.toNat) (fun _ => rfl) s.data.toList
 rw [show s.data.toList.length = s.size by simp] at this
 exact this
theorem wf_ints (l : List Int) (h : l.length ≤ 1048576) : wfF (.sub mfIntS) (intsC l) := by
 refine ⟨h, by simp [mfIntS, fdIntS], ?_⟩
 clear h
 induction l with
 | nil => rfl
 | cons b l ih =>
  rw [List.length_cons, repF_succ, List.map_cons]
  exact wfL_cons.2 ⟨trivial, ih⟩
theorem cnt_ints (l : List Int) : cntF (.sub mfIntS) (intsC l) = l.length := cnt_flat .int (fun z : Int => .int .i64 z) (fun _ => rfl) l
theorem wf_strs (l : List ByteArray) (h : l.length ≤ 1048576) : wfF (.sub mfStringS) (strsC l) := by
 refine ⟨h, by simp [mfStringS, fdStringS], ?_⟩
 clear h
 induction l with
 | nil => rfl
 | cons b l ih =>
  rw [List.length_cons, repF_succ, List.map_cons]
  exact wfL_cons.2 ⟨trivial, ih⟩
theorem cnt_strs (l : List ByteArray) : cntF (.sub mfStringS) (strsC l) = l.length := cnt_flat .str (fun z : ByteArray => .string z) (fun _ => rfl) l
theorem smwS {wt : α → Nat} (sm : α → Prop) (hs : ∀ x, wt x ≤ 1048576 → sm x) (l : List α) (h : wtL wt l ≤ 1048576) : l.length ≤ 1048576 ∧ ∀ y ∈ l, sm y := by
 have h1 := wtL_eq wt l
 refine ⟨by omega, fun y hy => hs y ?_⟩
 have h2 := wtS_mem (wt := wt) hy
 omega
theorem wf_rows {enc : α → List AV} {fs : List MF} (l : List α) (h : l.length ≤ 1048576) (hw : ∀ x ∈ l, wfL fs (enc x)) : wfF (.sub fs) (rowsC enc l) := by
 have key : ∀ l : List α, (∀ x ∈ l, wfL fs (enc x)) → (l.map enc).flatten.length = l.length * fs.length ∧ wfL (repF l.length fs) (l.map enc).flatten := by
  intro l
  induction l with
  | nil => intro _; exact ⟨by simp, rfl⟩
  | cons x l ih =>
   intro hw
   obtain ⟨h1, h2⟩ := ih fun y hy => hw y (List.mem_cons_of_mem _ hy)
   have hx := hw x List.mem_cons_self
   have hl := wfL_len hx
   rw [List.map_cons, List.flatten_cons, List.length_cons, repF_succ]
   exact ⟨by rw [List.length_append, h1, ← hl, Nat.succ_mul]; omega, (wfL_append hl).2 ⟨hx, h2⟩⟩
 obtain ⟨h1, h2⟩ := key l hw
 exact ⟨h, h1, h2⟩
theorem cnt_rows {enc : α → List AV} {fs : List MF} {wt : α → Nat} : ∀ (l : List α), (∀ x ∈ l, fs.length = (enc x).length) → (∀ x ∈ l, cntL fs (enc x) ≤ 64 * (1 + wt x)) → cntF (.sub fs) (rowsC enc l) ≤ 64 * wtL wt l
 | [], _, _ => Nat.zero_le _
 | x :: l, hl, h => by
  have ih := cnt_rows l (fun y hy => hl y (List.mem_cons_of_mem _ hy)) (fun y hy => h y (List.mem_cons_of_mem _ hy))
  have hx := h x List.mem_cons_self
  show cntL (repF (l.length + 1) fs) (enc x ++ (l.map enc).flatten) ≤ _
  rw [repF_succ, cntL_append _ _ _ _ (hl x List.mem_cons_self), wtL]
  have ih : cntL (repF l.length fs) (l.map enc).flatten ≤ 64 * wtL wt l := ih
  omega
def fdMsgS : List FD := [⟨.str, [0], 0⟩, ⟨.sub mfByteS, [1], 72⟩, ⟨.int, [2], 0⟩, ⟨.bool, [3], 0⟩]
def fhMsgS : List FD := [⟨.str, [0], 0⟩, ⟨.sub mfByteS, [1], 101⟩, ⟨.int, [2], 0⟩, ⟨.bool, [3], 0⟩]
def mfMsgS : List MF := fdMsgS.map FD.f
def smMsg (x : MsgV) : Prop := x.fBody.size ≤ 1048576 ∧ True
theorem mk_MsgS (n : Nat) (hn : 1048576 < n) : MarkOk (n + 3) 97 31 mfMsgS :=
 mark_ok (n := n + 2) (tI := 3) (w := 4) (cty := ctyMsg) (fds := fdMsgS) rfl rfl (mk_txt (n + 1) (by omega)) ⟨rfl, trivial, ⟨rfl, mk_ByteS (n + 0) (by omega), ⟨rfl, trivial, ⟨rfl, trivial, trivial⟩⟩⟩⟩ rfl ⟨_, _, rfl, rfl, rfl, rfl⟩ (by omega) (fun β kk => f97_l0 (PR (n + 2) β) (n + 2) kk) (fun β kk m a k i H => rfl) (fun β a b H kk => f97_eq (n + 2) a b H kk)
theorem hd_MsgS (n : Nat) (hn : 1048576 < n) : HeldOk (n + 3) 115 mfMsgS :=
 held_ok (n := n + 2) (tI := 3) (w := 4) (fds := fhMsgS) rfl (mk_txt (n + 1) (by omega)) ⟨rfl, trivial, ⟨rfl, hd_ByteS (n + 0) (by omega), ⟨rfl, trivial, ⟨rfl, trivial, trivial⟩⟩⟩⟩ rfl (by decide) (by omega) (fun kk => f115_l0 (PR (n + 2) AV) (n + 2) kk) (fun kk m a k i H => rfl) (fun a b H kk => f115_eq (n + 2) a b H kk)
theorem smwMsg (x : MsgV) (h : wtMsg x ≤ 1048576) : smMsg x := by
 have h0 := h
 unfold wtMsg at h0
 exact ⟨by omega, trivial⟩
theorem wfMsg (x : MsgV) (h : smMsg x) : wfL mfMsgS (encMsg x) := by
 obtain ⟨h0, _⟩ := h
 exact wfL_cons.2 ⟨trivial, wfL_cons.2 ⟨wf_bytes _ h0, wfL_cons.2 ⟨trivial, wfL_cons.2 ⟨trivial, rfl⟩⟩⟩⟩
theorem cntMsg (x : MsgV) : cntL mfMsgS (encMsg x) ≤ 64 * (1 + wtMsg x) := by
 have c0 := cnt_bytes x.fBody
 show 1 + (cntF (.sub mfByteS) (bytesC x.fBody) + (1 + (1 + 0))) ≤ _
 unfold wtMsg
 omega
def fvMsg : List FV := [.skip, .sub mfByteS [1] 72, .skip, .skip]
def fwMsg : List FV := [.skip, .sub mfByteS [1] 101, .skip, .skip]
def mvMsg : List MF := flatV fvMsg
theorem wfvMsg (x : MsgV) (h : smMsg x) : wfL mvMsg (encMsg x) := by
 obtain ⟨h0, _⟩ := h
 exact wfL_cons.2 ⟨rfl, wfL_cons.2 ⟨wf_bytes _ h0, wfL_cons.2 ⟨rfl, wfL_cons.2 ⟨rfl, rfl⟩⟩⟩⟩
theorem cntvMsg (x : MsgV) : cntL mvMsg (encMsg x) ≤ 64 * wtMsg x := by
 have c0 := cnt_bytes x.fBody
 show 0 + (cntF (.sub mfByteS) (bytesC x.fBody) + (0 + (0 + 0))) ≤ _
 unfold wtMsg
 omega
theorem lf_Msg : ∀ (cs : List AV) (N : Nat), wfL mvMsg cs → (instL ti0 E0.tp N ctyMsg cs).1.all isLeaf = true := fun cs N h => instL_leaf _ _ _ (wfv_fl cs mvMsg h rfl)
theorem mk_MsgV (n : Nat) (hn : 1048576 < n) : MarkV (n + 3) 25 ctyMsg mvMsg :=
 markv_ok (n := n + 2) (tI := 3) (fvs := fvMsg) rfl rfl ⟨rfl, mk_ByteS (n + 0) (by omega), trivial⟩ rfl lf_Msg (fun β a b H kk => f25_eq (n + 2) a b H kk)
def fdFlightS : List FD := [⟨.int, [0], 0⟩, ⟨.str, [1, 0], 0⟩, ⟨.sub mfByteS, [1, 1], 72⟩, ⟨.int, [1, 2], 0⟩, ⟨.bool, [1, 3], 0⟩, ⟨.int, [5], 0⟩]
def fhFlightS : List FD := [⟨.int, [0], 0⟩, ⟨.str, [1, 0], 0⟩, ⟨.sub mfByteS, [1, 1], 101⟩, ⟨.int, [1, 2], 0⟩, ⟨.bool, [1, 3], 0⟩, ⟨.int, [5], 0⟩]
def mfFlightS : List MF := fdFlightS.map FD.f
def smFlight (x : FlightV) : Prop := x.fM.fBody.size ≤ 1048576 ∧ True
theorem mk_FlightS (n : Nat) (hn : 1048576 < n) : MarkOk (n + 3) 96 30 mfFlightS :=
 mark_ok (n := n + 2) (tI := 3) (w := 6) (cty := ctyFlight) (fds := fdFlightS) rfl rfl (mk_txt (n + 1) (by omega)) ⟨rfl, trivial, ⟨rfl, trivial, ⟨rfl, mk_ByteS (n + 0) (by omega), ⟨rfl, trivial, ⟨rfl, trivial, ⟨rfl, trivial, trivial⟩⟩⟩⟩⟩⟩ rfl ⟨_, _, rfl, rfl, rfl, rfl⟩ (by omega) (fun β kk => f96_l0 (PR (n + 2) β) (n + 2) kk) (fun β kk m a k i H => rfl) (fun β a b H kk => f96_eq (n + 2) a b H kk)
theorem hd_FlightS (n : Nat) (hn : 1048576 < n) : HeldOk (n + 3) 114 mfFlightS :=
 held_ok (n := n + 2) (tI := 3) (w := 6) (fds := fhFlightS) rfl (mk_txt (n + 1) (by omega)) ⟨rfl, trivial, ⟨rfl, trivial, ⟨rfl, hd_ByteS (n + 0) (by omega), ⟨rfl, trivial, ⟨rfl, trivial, ⟨rfl, trivial, trivial⟩⟩⟩⟩⟩⟩ rfl (by decide) (by omega) (fun kk => f114_l0 (PR (n + 2) AV) (n + 2) kk) (fun kk m a k i H => rfl) (fun a b H kk => f114_eq (n + 2) a b H kk)
theorem smwFlight (x : FlightV) (h : wtFlight x ≤ 1048576) : smFlight x := by
 have h0 := h
 unfold wtFlight wtMsg at h0
 exact ⟨by omega, trivial⟩
theorem wfFlight (x : FlightV) (h : smFlight x) : wfL mfFlightS (encFlight x) := by
 obtain ⟨h0, _⟩ := h
 exact wfL_cons.2 ⟨trivial, wfL_cons.2 ⟨trivial, wfL_cons.2 ⟨wf_bytes _ h0, wfL_cons.2 ⟨trivial, wfL_cons.2 ⟨trivial, wfL_cons.2 ⟨trivial, rfl⟩⟩⟩⟩⟩⟩
theorem cntFlight (x : FlightV) : cntL mfFlightS (encFlight x) ≤ 64 * (1 + wtFlight x) := by
 have c0 := cnt_bytes x.fM.fBody
 show 1 + (1 + (cntF (.sub mfByteS) (bytesC x.fM.fBody) + (1 + (1 + (1 + 0))))) ≤ _
 unfold wtFlight wtMsg
 omega
def fdOutS : List FD := [⟨.int, [0], 0⟩, ⟨.sub mfFlightS, [1], 96⟩, ⟨.sub mfMsgS, [2], 97⟩]
def fhOutS : List FD := [⟨.int, [0], 0⟩, ⟨.sub mfFlightS, [1], 114⟩, ⟨.sub mfMsgS, [2], 115⟩]
def mfOutS : List MF := fdOutS.map FD.f
def smOut (x : OutV) : Prop := (x.fFl.length ≤ 1048576 ∧ ∀ y ∈ x.fFl, smFlight y) ∧ (x.fQ.length ≤ 1048576 ∧ ∀ y ∈ x.fQ, smMsg y) ∧ True
theorem smwOut (x : OutV) (h : wtOut x ≤ 1048576) : smOut x := by
 have e0 := wtL_eq wtFlight x.fFl
 have e1 := wtL_eq wtMsg x.fQ
 have h0 := h
 unfold wtOut at h0
 exact ⟨smwS smFlight smwFlight _ (by omega), smwS smMsg smwMsg _ (by omega), trivial⟩
theorem wfOut (x : OutV) (h : smOut x) : wfL mfOutS (encOut x) := by
 obtain ⟨h0, h1, _⟩ := h
 exact wfL_cons.2 ⟨trivial, wfL_cons.2 ⟨wf_rows _ h0.1 fun y hy => wfFlight y (h0.2 y hy), wfL_cons.2 ⟨wf_rows _ h1.1 fun y hy => wfMsg y (h1.2 y hy), rfl⟩⟩⟩
theorem cntOut (x : OutV) : cntL mfOutS (encOut x) ≤ 64 * (1 + wtOut x) := by
 have c0 := cnt_rows (fs := mfFlightS) (wt := wtFlight) x.fFl (fun y _ => rfl) (fun y _ => cntFlight y)
 have c1 := cnt_rows (fs := mfMsgS) (wt := wtMsg) x.fQ (fun y _ => rfl) (fun y _ => cntMsg y)
 show 1 + (cntF (.sub mfFlightS) (rowsC encFlight x.fFl) + (cntF (.sub mfMsgS) (rowsC encMsg x.fQ) + 0)) ≤ _
 unfold wtOut
 omega
def fvOut : List FV := [.skip, .sub mfFlightS [1] 96, .sub mfMsgS [2] 97]
def fwOut : List FV := [.skip, .sub mfFlightS [1] 114, .sub mfMsgS [2] 115]
def mvOut : List MF := flatV fvOut
theorem wfvOut (x : OutV) (h : smOut x) : wfL mvOut (encOut x) := by
 obtain ⟨h0, h1, _⟩ := h
 exact wfL_cons.2 ⟨rfl, wfL_cons.2 ⟨wf_rows _ h0.1 fun y hy => wfFlight y (h0.2 y hy), wfL_cons.2 ⟨wf_rows _ h1.1 fun y hy => wfMsg y (h1.2 y hy), rfl⟩⟩⟩
theorem cntvOut (x : OutV) : cntL mvOut (encOut x) ≤ 64 * wtOut x := by
 have c0 := cnt_rows (fs := mfFlightS) (wt := wtFlight) x.fFl (fun y _ => rfl) (fun y _ => cntFlight y)
 have c1 := cnt_rows (fs := mfMsgS) (wt := wtMsg) x.fQ (fun y _ => rfl) (fun y _ => cntMsg y)
 show 0 + (cntF (.sub mfFlightS) (rowsC encFlight x.fFl) + (cntF (.sub mfMsgS) (rowsC encMsg x.fQ) + 0)) ≤ _
 unfold wtOut
 omega
theorem lf_Out : ∀ (cs : List AV) (N : Nat), wfL mvOut cs → (instL ti0 E0.tp N ctyOut cs).1.all isLeaf = true := fun cs N h => instL_leaf _ _ _ (wfv_fl cs mvOut h rfl)
theorem mk_OutV (n : Nat) (hn : 1048576 < n) : MarkV (n + 4) 41 ctyOut mvOut :=
 markv_ok (n := n + 3) (tI := 3) (fvs := fvOut) rfl rfl ⟨rfl, mk_FlightS (n + 0) (by omega), ⟨rfl, mk_MsgS (n + 0) (by omega), trivial⟩⟩ rfl lf_Out (fun β a b H kk => f41_eq (n + 3) a b H kk)
theorem hd_OutV (n : Nat) (hn : 1048576 < n) : HeldV (n + 4) 48 mvOut :=
 heldv_ok (n := n + 3) (tI := 3) (fvs := fwOut) rfl ⟨rfl, hd_FlightS (n + 0) (by omega), ⟨rfl, hd_MsgS (n + 0) (by omega), trivial⟩⟩ rfl (fun a b H kk => f48_eq (n + 3) a b H kk)
def fdSessS : List FD := [⟨.str, [0], 0⟩, ⟨.int, [1], 0⟩, ⟨.bool, [2], 0⟩, ⟨.int, [3], 0⟩, ⟨.int, [4], 0⟩, ⟨.int, [5, 0], 0⟩, ⟨.sub mfFlightS, [5, 1], 96⟩, ⟨.sub mfMsgS, [5, 2], 97⟩, ⟨.sub mfIntS, [8], 64⟩]
def fhSessS : List FD := [⟨.str, [0], 0⟩, ⟨.int, [1], 0⟩, ⟨.bool, [2], 0⟩, ⟨.int, [3], 0⟩, ⟨.int, [4], 0⟩, ⟨.int, [5, 0], 0⟩, ⟨.sub mfFlightS, [5, 1], 114⟩, ⟨.sub mfMsgS, [5, 2], 115⟩, ⟨.sub mfIntS, [8], 65⟩]
def mfSessS : List MF := fdSessS.map FD.f
def smSess (x : SessV) : Prop := (x.fO.fFl.length ≤ 1048576 ∧ ∀ y ∈ x.fO.fFl, smFlight y) ∧ (x.fO.fQ.length ≤ 1048576 ∧ ∀ y ∈ x.fO.fQ, smMsg y) ∧ x.fIn.length ≤ 1048576 ∧ True
theorem smwSess (x : SessV) (h : wtSess x ≤ 1048576) : smSess x := by
 have e0 := wtL_eq wtFlight x.fO.fFl
 have e1 := wtL_eq wtMsg x.fO.fQ
 have h0 := h
 unfold wtSess wtOut at h0
 exact ⟨smwS smFlight smwFlight _ (by omega), smwS smMsg smwMsg _ (by omega), by omega, trivial⟩
theorem wfSess (x : SessV) (h : smSess x) : wfL mfSessS (encSess x) := by
 obtain ⟨h0, h1, h2, _⟩ := h
 exact wfL_cons.2 ⟨trivial, wfL_cons.2 ⟨trivial, wfL_cons.2 ⟨trivial, wfL_cons.2 ⟨trivial, wfL_cons.2 ⟨trivial, wfL_cons.2 ⟨trivial, wfL_cons.2 ⟨wf_rows _ h0.1 fun y hy => wfFlight y (h0.2 y hy), wfL_cons.2 ⟨wf_rows _ h1.1 fun y hy => wfMsg y (h1.2 y hy), wfL_cons.2 ⟨wf_ints _ h2, rfl⟩⟩⟩⟩⟩⟩⟩⟩⟩
theorem cntSess (x : SessV) : cntL mfSessS (encSess x) ≤ 64 * (1 + wtSess x) := by
 have c0 := cnt_rows (fs := mfFlightS) (wt := wtFlight) x.fO.fFl (fun y _ => rfl) (fun y _ => cntFlight y)
 have c1 := cnt_rows (fs := mfMsgS) (wt := wtMsg) x.fO.fQ (fun y _ => rfl) (fun y _ => cntMsg y)
 have c2 := cnt_ints x.fIn
 show 1 + (1 + (1 + (1 + (1 + (1 + (cntF (.sub mfFlightS) (rowsC encFlight x.fO.fFl) + (cntF (.sub mfMsgS) (rowsC encMsg x.fO.fQ) + (cntF (.sub mfIntS) (intsC x.fIn) + 0)))))))) ≤ _
 unfold wtSess wtOut
 omega
def fvSess : List FV := [.skip, .skip, .skip, .skip, .skip, .agg (flatV fvOut) [5] 3 41, .sub mfIntS [8] 64]
def fwSess : List FV := [.skip, .skip, .skip, .skip, .skip, .agg (flatV fvOut) [5] 3 48, .sub mfIntS [8] 65]
def mvSess : List MF := flatV fvSess
theorem wfvSess (x : SessV) (h : smSess x) : wfL mvSess (encSess x) := by
 obtain ⟨h0, h1, h2, _⟩ := h
 exact wfL_cons.2 ⟨rfl, wfL_cons.2 ⟨rfl, wfL_cons.2 ⟨rfl, wfL_cons.2 ⟨rfl, wfL_cons.2 ⟨rfl, wfL_cons.2 ⟨rfl, wfL_cons.2 ⟨wf_rows _ h0.1 fun y hy => wfFlight y (h0.2 y hy), wfL_cons.2 ⟨wf_rows _ h1.1 fun y hy => wfMsg y (h1.2 y hy), wfL_cons.2 ⟨wf_ints _ h2, rfl⟩⟩⟩⟩⟩⟩⟩⟩⟩
theorem cntvSess (x : SessV) : cntL mvSess (encSess x) ≤ 64 * wtSess x := by
 have c0 := cnt_rows (fs := mfFlightS) (wt := wtFlight) x.fO.fFl (fun y _ => rfl) (fun y _ => cntFlight y)
 have c1 := cnt_rows (fs := mfMsgS) (wt := wtMsg) x.fO.fQ (fun y _ => rfl) (fun y _ => cntMsg y)
 have c2 := cnt_ints x.fIn
 show 0 + (0 + (0 + (0 + (0 + (0 + (cntF (.sub mfFlightS) (rowsC encFlight x.fO.fFl) + (cntF (.sub mfMsgS) (rowsC encMsg x.fO.fQ) + (cntF (.sub mfIntS) (intsC x.fIn) + 0)))))))) ≤ _
 unfold wtSess wtOut
 omega
theorem lf_Sess : ∀ (cs : List AV) (N : Nat), wfL mvSess cs → (instL ti0 E0.tp N ctySess cs).1.all isLeaf = true := fun cs N h => instL_leaf _ _ _ (wfv_fl cs mvSess h rfl)
theorem mk_SessV (n : Nat) (hn : 1048576 < n) : MarkV (n + 5) 16 ctySess mvSess :=
 markv_ok (n := n + 4) (tI := 3) (fvs := fvSess) rfl rfl ⟨rfl, rfl, by decide, rfl, mk_OutV (n + 0) (by omega), by decide, ⟨rfl, mk_IntS (n + 2) (by omega), trivial⟩⟩ rfl lf_Sess (fun β a b H kk => f16_eq (n + 4) a b H kk)
theorem hd_SessV (n : Nat) (hn : 1048576 < n) : HeldV (n + 5) 17 mvSess :=
 heldv_ok (n := n + 4) (tI := 3) (fvs := fwSess) rfl ⟨rfl, rfl, by decide, hd_OutV (n + 0) (by omega), ⟨rfl, hd_IntS (n + 2) (by omega), trivial⟩⟩ rfl (fun a b H kk => f17_eq (n + 4) a b H kk)
end Go.Proofs.YtdameggfgnpehaaGreatDoor.Abs
set_option linter.unusedVariables false
set_option linter.unusedSimpArgs false
set_option maxRecDepth 100000
namespace Go.Proofs.YtdameggfgnpehaaGreatDoor.Abs
open Go
def vIn (x lo hi : Int) : Bool := decide (lo ≤ x) && decide (x ≤ hi)
theorem l1InF (n : Nat) (ty : Nat) (x : Int) (lo : Int) (hi : Int) : tree E0 (n + 1) ty 83 [.sc (.int .i64 x), .sc (.int .i64 lo), .sc (.int .i64 hi)] = some (.sc (.bool (vIn x lo hi))) := by
 rw [tree_def, f83_eq, f83]
 try simp only [PR_box, PR_new, PR_fadr, PR_load, PR_store, PR_bin, PR_binB, PR_binA, PR_un, PR_cond, PR_guard, PR_pick, PR_len, PR_lenS, PR_iadr, PR_idx, PR_slice, PR_sliceS, PR_newSl, PR_fill, PR_make, PR_app, PR_cvI, PR_cvBS]
 refine w_bin (v := .sc (.bool (decide (x ≥ lo)))) (fun k => rfl) ?_
 apply w_merge ((decide (x ≥ lo)) && (decide (x ≤ hi)))
 ·intro b1 q1
  refine w_split ((decide (x ≥ lo))) (fun h1 => ?_) (fun h1 => ?_)
  ·refine w_gT h1 ?_
   refine w_gT h1 ?_
   refine w_gT h1 ?_
   refine w_bin (v := .sc (.bool (decide (x ≤ hi)))) (fun k => rfl) ?_
   refine w_pTb h1 (mAT q1 h1) ?_
   exact rfl
  ·refine w_gF h1 ?_
   refine w_gF h1 ?_
   refine w_gF h1 ?_
   refine w_pFb h1 (mAF q1 h1) ?_
   exact rfl
 intro b1 q1
 exact w_endB (by first | (simp_all [vIn]; done) | (rw [Bool.eq_iff_iff]; simp [vIn] at *; omega))
theorem withinF (n : Nat) (ty : Nat) (x : Int) (lo : Int) (hi : Int) : tree E0 (n + 1) ty 128 [.sc (.int .i64 x), .sc (.int .i64 lo), .sc (.int .i64 hi)] = some (.sc (.bool (vIn x lo hi))) := by
 rw [tree_def, f128_eq, f128]
 try simp only [PR_box, PR_new, PR_fadr, PR_load, PR_store, PR_bin, PR_binB, PR_binA, PR_un, PR_cond, PR_guard, PR_pick, PR_len, PR_lenS, PR_iadr, PR_idx, PR_slice, PR_sliceS, PR_newSl, PR_fill, PR_make, PR_app, PR_cvI, PR_cvBS]
 refine w_bin (v := .sc (.bool (decide (x ≥ lo)))) (fun k => rfl) ?_
 apply w_merge ((decide (x ≥ lo)) && (decide (x ≤ hi)))
 ·intro b1 q1
  refine w_split ((decide (x ≥ lo))) (fun h1 => ?_) (fun h1 => ?_)
  ·refine w_gT h1 ?_
   refine w_gT h1 ?_
   refine w_gT h1 ?_
   refine w_bin (v := .sc (.bool (decide (x ≤ hi)))) (fun k => rfl) ?_
   refine w_pTb h1 (mAT q1 h1) ?_
   exact rfl
  ·refine w_gF h1 ?_
   refine w_gF h1 ?_
   refine w_gF h1 ?_
   refine w_pFb h1 (mAF q1 h1) ?_
   exact rfl
 intro b1 q1
 exact w_endB (by first | (simp_all [vIn]; done) | (rw [Bool.eq_iff_iff]; simp [vIn] at *; omega))
end Go.Proofs.YtdameggfgnpehaaGreatDoor.Abs
set_option linter.unusedVariables false
set_option linter.unusedSimpArgs false
set_option maxRecDepth 100000
namespace Go.Proofs.YtdameggfgnpehaaGreatDoor.Abs
open Go
theorem and31 : ∀ X : Fin 256, bits .and .i64 ((X.val : Nat) : Int) 31 = ((X.val % 32 : Nat) : Int) := by decide +kernel
theorem and15 : ∀ X : Fin 256, bits .and .i64 ((X.val : Nat) : Int) 15 = ((X.val % 16 : Nat) : Int) := by decide +kernel
theorem and7' : ∀ X : Fin 256, bits .and .i64 ((X.val : Nat) : Int) 7 = ((X.val % 8 : Nat) : Int) := by decide +kernel
def runeAV (d : Nat × Nat) (i : Nat) : AV := if d.1 = 65533 ∧ d.2 = 1 then .tup [.sc (.int .i64 0), .sc (.int .i64 0), .sc (.bool false)] else .tup [.sc (.int .i64 d.1), .sc (.int .i64 ((i + d.2 : Nat) : Int)), .sc (.bool true)]
def failAV : AV := .tup [.sc (.int .i64 0), .sc (.int .i64 0), .sc (.bool false)]
theorem by_at (s : ByteArray) (i : Nat) (h : i < s.size) (H : Heap) (k : AV → Option AV) : (pIadr 1 (bytesC s) (.sc (.int .i64 i)) fun t => pLoad false 1 t H k) = k (.sc (.int .u8 (s.data.toList.getD i 0).toNat)) := by
 rw [iadr_ro 1 _ _ i _ h (by rw [bytesAV_len]; omega)]
 have hl : i < s.data.toList.length := by simpa using h
 have hd : (bytesAV s).drop (i * 1) = .sc (.int .u8 (s.data.toList.getD i 0).toNat) :: (bytesAV s).drop (i + 1) := by
  rw [Nat.mul_one, List.drop_eq_getElem_cons (by rw [bytesAV_len]; omega)]
  congr 1
  simp [bytesAV, List.getD_eq_getElem?_getD, h]
 rw [hd, ld1_rp]
section loop
variable (n : Nat) (k : AV → Heap → Option AV) (H : Heap) (s : ByteArray)
theorem rune_step (m at' N v i : Nat) (least : Int) (hi : i ≤ N) (hb : at' + i < s.size) (hN : N ≤ 3) (hv : v < 100000000) (hs : s.size ≤ 1048576) :
  f172_l0 (PR n AV) n k (m + 1) (bytesC s) (.sc (.int .i64 at')) (.sc (.int .i64 N)) (.sc (.int .i64 least)) (.sc (.int .i64 v)) (.sc (.int .i64 i)) H =
   if (s.data.toList.getD (at' + i) 0).toNat / 64 = 2 then f172_l0 (PR n AV) n k m (bytesC s) (.sc (.int .i64 at')) (.sc (.int .i64 N)) (.sc (.int .i64 least)) (.sc (.int .i64 ((v * 64 + (s.data.toList.getD (at' + i) 0).toNat % 64 : Nat) : Int))) (.sc (.int .i64 ((i + 1 : Nat) : Int))) H else k failAV H := by
 obtain ⟨y, hy⟩ : ∃ y, (s.data.toList.getD (at' + i) 0).toNat = y := ⟨_, rfl⟩
 have hylt : y < 256 := by rw [← hy]; exact (s.data.toList.getD (at' + i) 0).toNat_lt
 have hba := by_at s (at' + i) hb H
 rw [hy] at hba ⊢
 rw [f172_l0]
 simp only [PR_bin, PR_cond, PR_iadr, PR_load, PR_cvI, PR_guard, PR_pick]
 rw [leq64, cond_b, if_pos (by simp; omega), add64, ← Int.natCast_add, wrap64 _ (by omega) (by omega), hba]
 simp only [pCvI, asI, Option.bind_some]
 rw [wrap64 _ (by omega) (by omega), lss64]
 by_cases h1 : y < 128
 ·refine w_hF (by simp; omega) ?_
  refine w_hF (by simp; omega) ?_
  refine w_pT (by simp; omega) ?_
  rw [if_neg (by omega)]
  rfl
 ·refine w_hT (by simp; omega) ?_
  refine w_hT (by simp; omega) ?_
  rw [gtr64]
  refine w_pF (by simp; omega) ?_
  by_cases h2 : y ≤ 191
  ·rw [cond_b, if_neg (by simp; omega), if_pos (by omega), mul64, show (v : Int) * 64 = ((v * 64 : Nat) : Int) by omega, wrap64 _ (by omega) (by omega), add64, ← Int.natCast_add, wrap64 _ (by omega) (by omega), sub64 _ _ _ (by omega) (by omega), inc_nat _ _ (by omega)]
   congr 3
   omega
  ·rw [cond_b, if_pos (by simp; omega), if_neg (by omega)]
   rfl
theorem rune_end (n' : Nat) (hnn : n = n' + 1) (m at' N v least : Nat) (hN : N ≤ 3) (hv : v < 100000000) (ha : at' ≤ 1048576) :
  f172_l0 (PR n AV) n k (m + 1) (bytesC s) (.sc (.int .i64 at')) (.sc (.int .i64 N)) (.sc (.int .i64 least)) (.sc (.int .i64 v)) (.sc (.int .i64 ((N + 1 : Nat) : Int))) H =
   if v ≥ least ∧ (v < 55296 ∨ (57344 ≤ v ∧ v ≤ 1114111)) then k (.tup [.sc (.int .i64 v), .sc (.int .i64 ((at' + (N + 1) : Nat) : Int)), .sc (.bool true)]) H else k failAV H := by
 subst hnn
 rw [f172_l0]
 simp only [PR_bin, PR_cond, PR_iadr, PR_load, PR_cvI, PR_guard, PR_pick]
 rw [leq64, cond_b, if_neg (by simp; omega), lss64]
 by_cases h1 : v < least
 ·have e : decide ((v : Int) < (least : Int)) = true := by simp; omega
  refine w_hF e ?_
  refine w_hF e ?_
  refine w_pT e ?_
  refine w_hF rfl ?_
  refine w_hF rfl ?_
  refine w_pT rfl ?_
  refine w_cT rfl ?_
  rw [if_neg (by omega)]
  rfl
 ·have e : decide ((v : Int) < (least : Int)) = false := by simp; omega
  refine w_hT e ?_
  refine w_hT e ?_
  refine w_bin (v := .sc (.bool (decide ((v : Int) > 1114111)))) (fun k => rfl) ?_
  refine w_pF e ?_
  by_cases h2 : v > 1114111
  ·have e2 : decide ((v : Int) > 1114111) = true := by simp; omega
   refine w_hF e2 ?_
   refine w_hF e2 ?_
   refine w_pT e2 ?_
   refine w_cT rfl ?_
   rw [if_neg (by omega)]
   rfl
  ·have e2 : decide ((v : Int) > 1114111) = false := by simp; omega
   refine w_hT e2 ?_
   refine w_hT e2 ?_
   refine lw_sc rfl (vcons (Vw_sc _ _) (vcons (Vw_sc _ _) (vcons (Vw_sc _ _) vnil))) (l1InF n' _ v 55296 57343) ?_
   refine w_pF e2 ?_
   by_cases h3 : 55296 ≤ v ∧ v ≤ 57343
   ·refine w_cT (by simp [vIn]; omega) ?_
    rw [if_neg (by omega)]
    rfl
   ·refine w_cF (by simp [vIn]; omega) ?_
    have e5 : ((at' : Int) + 1 + (N : Int)) = ((at' + (N + 1) : Nat) : Int) := by omega
    rw [if_pos (by omega), add64, wrap64 _ (by omega) (by omega), add64, wrap64 _ (by omega) (by omega), e5]
    rfl
end loop
theorem own_tup3 (H : Heap) (a b c : Value) : ownTree ti0 E0.tp 177 H (.tup [.sc a, .sc b, .sc c]) = some (.tup [.sc a, .sc b, .sc c]) := rfl
set_option maxHeartbeats 1600000 in
theorem runeAtF (n : Nat) (hn : 1048576 < n) (s : ByteArray) (i : Nat) (hs : s.size ≤ 1048576) (hi : i < s.size) : tree E0 (n + 2) 177 172 [bytesC s, .sc (.int .i64 i)] = some (runeAV (Lib.decodeL (s.data.toList.drop i)) i) := by
 have hg : ∀ j, (s.data.toList.drop i).getD j 0 = s.data.toList.getD (i + j) 0 := fun j => by simp [List.getD_eq_getElem?_getD, List.getElem?_drop]
 have hL : (s.data.toList.drop i).length = s.size - i := by simp
 have hg0 : (s.data.toList.drop i).getD 0 0 = s.data.toList.getD i 0 := hg 0
 rw [Lib.decodeL_N, hL, hg0, hg 1, hg 2, hg 3]
 obtain ⟨x, hx⟩ : ∃ x, (s.data.toList.getD i 0).toNat = x := ⟨_, rfl⟩
 have hxl : x < 256 := by rw [← hx]; exact (s.data.toList.getD i 0).toNat_lt
 obtain ⟨y1, hy1⟩ : ∃ x, (s.data.toList.getD (i + 1) 0).toNat = x := ⟨_, rfl⟩
 obtain ⟨y2, hy2⟩ : ∃ x, (s.data.toList.getD (i + 2) 0).toNat = x := ⟨_, rfl⟩
 obtain ⟨y3, hy3⟩ : ∃ x, (s.data.toList.getD (i + 3) 0).toNat = x := ⟨_, rfl⟩
 have b1 : y1 < 256 := by rw [← hy1]; exact (s.data.toList.getD (i + 1) 0).toNat_lt
 have b2 : y2 < 256 := by rw [← hy2]; exact (s.data.toList.getD (i + 2) 0).toNat_lt
 have b3 : y3 < 256 := by rw [← hy3]; exact (s.data.toList.getD (i + 3) 0).toNat_lt
 have hba := by_at s i hi []
 rw [hx] at hba
 rw [hx, hy1, hy2, hy3]
 have fails : Lib.decodeN (s.size - i) x y1 y2 y3 = (65533, 1) → some failAV = some (runeAV (Lib.decodeN (s.size - i) x y1 y2 y3) i) := fun h => by rw [h]; rfl
 have goes : ∀ v w, Lib.decodeN (s.size - i) x y1 y2 y3 = (v, w) → (w = 1 → v < 128) → some (.tup [.sc (.int .i64 v), .sc (.int .i64 ((i + w : Nat) : Int)), .sc (.bool true)]) = some (runeAV (Lib.decodeN (s.size - i) x y1 y2 y3) i) := fun v w h hw => by
  rw [h, runeAV, if_neg (by intro h; simp only at h; omega)]
 rw [tree_def, f172_eq, f172]
 simp only [PR_bin, PR_cond, PR_iadr, PR_load, PR_cvI, PR_guard, PR_pick, PR_len]
 have e0 : decide ((i : Int) < 0) = false := by simp
 rw [lss64]
 refine w_hT e0 ?_
 refine w_hT e0 ?_
 refine w_hT e0 ?_
 refine w_len ?_
 refine w_hT e0 ?_
 refine w_bin (v := .sc (.bool (decide ((i : Int) ≥ (s.size : Int))))) (fun k => rfl) ?_
 refine w_pF e0 ?_
 refine w_cF (by simp; omega) ?_
 rw [hba]
 simp only [pCvI, asI, Option.bind_some]
 rw [wrap64 _ (by omega) (by omega), lss64]
 by_cases c1 : x < 128
 ·refine w_cT (by simp; omega) ?_
  rw [inc_nat _ _ (by omega)]
  exact (own_tup3 _ _ _ _).trans (goes x 1 (by rw [Lib.decodeN, if_pos c1]) (fun _ => c1))
 ·refine w_cF (by simp; omega) ?_
  obtain ⟨q, rfl⟩ : ∃ q, n = q + 4 := ⟨n - 4, by omega⟩
  apply w_merge (decide ((x : Int) ≥ 192) && decide ((x : Int) < 224))
  ·intro b hb
   refine w_bin (v := .sc (.bool (decide ((x : Int) ≥ 192)))) (fun k => rfl) ?_
   refine w_split (decide ((x : Int) ≥ 192)) (fun h => ?_) (fun h => ?_)
   ·refine w_gT h ?_
    refine w_gT h ?_
    refine w_bin (v := .sc (.bool (decide ((x : Int) < 224)))) (fun k => rfl) ?_
    refine w_pTb h (mAT hb h) ?_
    exact rfl
   ·refine w_gF h ?_
    refine w_gF h ?_
    refine w_pFb h (mAF hb h) ?_
    exact rfl
  intro b0 hb0
  by_cases d0 : 192 ≤ x ∧ x < 224
  ·refine w_cT (by rw [hb0]; simp; omega) ?_
   refine w_bin (v := .sc (.int .i64 ((x % 32 : Nat) : Int))) (fun k => by show k (.sc (.int .i64 (bits .and .i64 (x : Int) 31))) = _; rw [and31 ⟨x, hxl⟩]) ?_
   refine w_len ?_
   refine w_bin (v := .sc (.int .i64 ((s.size : Int) - 1))) (fun k => sub64 _ _ _ (by omega) (by omega)) ?_
   refine w_bin (v := .sc (.int .i64 ((s.size : Int) - 1 - 1))) (fun k => sub64 _ _ _ (by omega) (by omega)) ?_
   refine w_bin (v := .sc (.bool (decide ((i : Int) > (s.size : Int) - 1 - 1)))) (fun k => rfl) ?_
   by_cases c3 : i + 1 < s.size
   ·refine w_cF (by simp; omega) ?_
    have r1 := rune_step (q + 4 + 1) (fun x H => ownTree ti0 E0.tp 177 H x) [] s (q + 4) i 1 (x % 32) 1 128 (by omega) (by omega) (by omega) (by omega) hs
    rw [hy1] at r1
    refine r1.trans ?_
    by_cases k1 : y1 / 64 = 2
    rotate_left
    ·rw [if_neg k1]
     exact (own_tup3 _ _ _ _).trans (fails (by unfold Lib.decodeN; rw [if_neg c1, if_neg (by omega), if_neg (by omega), if_neg (by omega)]))
    rw [if_pos k1]
    refine (rune_end (q + 4 + 1) (fun x H => ownTree ti0 E0.tp 177 H x) [] s (q + 4) rfl (q + 3) i 1 ((x % 32) * 64 + y1 % 64) 128 (by omega) (by omega) (by omega)).trans ?_
    have hv : (x % 32) * 64 + y1 % 64 = x % 32 * 64 + y1 % 64 := by omega
    rw [hv]
    split
    ·exact (own_tup3 _ _ _ _).trans (goes _ 2 (by unfold Lib.decodeN; rw [if_neg c1, if_pos (by omega), if_pos (by omega)]) (by omega))
    ·exact (own_tup3 _ _ _ _).trans (fails (by unfold Lib.decodeN; rw [if_neg c1, if_pos (by omega), if_neg (by omega)]))
   ·refine w_cT (by simp; omega) ?_
    exact (own_tup3 _ _ _ _).trans (fails (by unfold Lib.decodeN; rw [if_neg c1, if_neg (by omega), if_neg (by omega), if_neg (by omega)]))
  ·refine w_cF (by rw [hb0]; simp; omega) ?_
   apply w_merge (decide ((x : Int) ≥ 224) && decide ((x : Int) < 240))
   ·intro b hb
    refine w_bin (v := .sc (.bool (decide ((x : Int) ≥ 224)))) (fun k => rfl) ?_
    refine w_split (decide ((x : Int) ≥ 224)) (fun h => ?_) (fun h => ?_)
    ·refine w_gT h ?_
     refine w_gT h ?_
     refine w_bin (v := .sc (.bool (decide ((x : Int) < 240)))) (fun k => rfl) ?_
     refine w_pTb h (mAT hb h) ?_
     exact rfl
    ·refine w_gF h ?_
     refine w_gF h ?_
     refine w_pFb h (mAF hb h) ?_
     exact rfl
   intro b1 hb1
   by_cases d1 : 224 ≤ x ∧ x < 240
   ·refine w_cT (by rw [hb1]; simp; omega) ?_
    refine w_bin (v := .sc (.int .i64 ((x % 16 : Nat) : Int))) (fun k => by show k (.sc (.int .i64 (bits .and .i64 (x : Int) 15))) = _; rw [and15 ⟨x, hxl⟩]) ?_
    refine w_len ?_
    refine w_bin (v := .sc (.int .i64 ((s.size : Int) - 1))) (fun k => sub64 _ _ _ (by omega) (by omega)) ?_
    refine w_bin (v := .sc (.int .i64 ((s.size : Int) - 1 - 2))) (fun k => sub64 _ _ _ (by omega) (by omega)) ?_
    refine w_bin (v := .sc (.bool (decide ((i : Int) > (s.size : Int) - 1 - 2)))) (fun k => rfl) ?_
    by_cases c3 : i + 2 < s.size
    ·refine w_cF (by simp; omega) ?_
     have r1 := rune_step (q + 4 + 1) (fun x H => ownTree ti0 E0.tp 177 H x) [] s (q + 4) i 2 (x % 16) 1 2048 (by omega) (by omega) (by omega) (by omega) hs
     rw [hy1] at r1
     refine r1.trans ?_
     by_cases k1 : y1 / 64 = 2
     rotate_left
     ·rw [if_neg k1]
      exact (own_tup3 _ _ _ _).trans (fails (by unfold Lib.decodeN; rw [if_neg c1, if_neg (by omega), if_neg (by omega), if_neg (by omega)]))
     rw [if_pos k1]
     have r2 := rune_step (q + 4 + 1) (fun x H => ownTree ti0 E0.tp 177 H x) [] s (q + 3) i 2 ((x % 16) * 64 + y1 % 64) 2 2048 (by omega) (by omega) (by omega) (by omega) hs
     rw [hy2] at r2
     refine r2.trans ?_
     by_cases k2 : y2 / 64 = 2
     rotate_left
     ·rw [if_neg k2]
      exact (own_tup3 _ _ _ _).trans (fails (by unfold Lib.decodeN; rw [if_neg c1, if_neg (by omega), if_neg (by omega), if_neg (by omega)]))
     rw [if_pos k2]
     refine (rune_end (q + 4 + 1) (fun x H => ownTree ti0 E0.tp 177 H x) [] s (q + 4) rfl (q + 2) i 2 (((x % 16) * 64 + y1 % 64) * 64 + y2 % 64) 2048 (by omega) (by omega) (by omega)).trans ?_
     have hv : ((x % 16) * 64 + y1 % 64) * 64 + y2 % 64 = x % 16 * 4096 + y1 % 64 * 64 + y2 % 64 := by omega
     rw [hv]
     split
     ·exact (own_tup3 _ _ _ _).trans (goes _ 3 (by unfold Lib.decodeN; rw [if_neg c1, if_neg (by omega), if_pos (by omega), if_pos (by omega)]) (by omega))
     ·exact (own_tup3 _ _ _ _).trans (fails (by unfold Lib.decodeN; rw [if_neg c1, if_neg (by omega), if_pos (by omega), if_neg (by omega)]))
    ·refine w_cT (by simp; omega) ?_
     exact (own_tup3 _ _ _ _).trans (fails (by unfold Lib.decodeN; rw [if_neg c1, if_neg (by omega), if_neg (by omega), if_neg (by omega)]))
   ·refine w_cF (by rw [hb1]; simp; omega) ?_
    apply w_merge (decide ((x : Int) ≥ 240) && decide ((x : Int) < 248))
    ·intro b hb
     refine w_bin (v := .sc (.bool (decide ((x : Int) ≥ 240)))) (fun k => rfl) ?_
     refine w_split (decide ((x : Int) ≥ 240)) (fun h => ?_) (fun h => ?_)
     ·refine w_gT h ?_
      refine w_gT h ?_
      refine w_bin (v := .sc (.bool (decide ((x : Int) < 248)))) (fun k => rfl) ?_
      refine w_pTb h (mAT hb h) ?_
      exact rfl
     ·refine w_gF h ?_
      refine w_gF h ?_
      refine w_pFb h (mAF hb h) ?_
      exact rfl
    intro b2 hb2
    by_cases d2 : 240 ≤ x ∧ x < 248
    ·refine w_cT (by rw [hb2]; simp; omega) ?_
     refine w_bin (v := .sc (.int .i64 ((x % 8 : Nat) : Int))) (fun k => by show k (.sc (.int .i64 (bits .and .i64 (x : Int) 7))) = _; rw [and7' ⟨x, hxl⟩]) ?_
     refine w_len ?_
     refine w_bin (v := .sc (.int .i64 ((s.size : Int) - 1))) (fun k => sub64 _ _ _ (by omega) (by omega)) ?_
     refine w_bin (v := .sc (.int .i64 ((s.size : Int) - 1 - 3))) (fun k => sub64 _ _ _ (by omega) (by omega)) ?_
     refine w_bin (v := .sc (.bool (decide ((i : Int) > (s.size : Int) - 1 - 3)))) (fun k => rfl) ?_
     by_cases c3 : i + 3 < s.size
     ·refine w_cF (by simp; omega) ?_
      have r1 := rune_step (q + 4 + 1) (fun x H => ownTree ti0 E0.tp 177 H x) [] s (q + 4) i 3 (x % 8) 1 65536 (by omega) (by omega) (by omega) (by omega) hs
      rw [hy1] at r1
      refine r1.trans ?_
      by_cases k1 : y1 / 64 = 2
      rotate_left
      ·rw [if_neg k1]
       exact (own_tup3 _ _ _ _).trans (fails (by unfold Lib.decodeN; rw [if_neg c1, if_neg (by omega), if_neg (by omega), if_neg (by omega)]))
      rw [if_pos k1]
      have r2 := rune_step (q + 4 + 1) (fun x H => ownTree ti0 E0.tp 177 H x) [] s (q + 3) i 3 ((x % 8) * 64 + y1 % 64) 2 65536 (by omega) (by omega) (by omega) (by omega) hs
      rw [hy2] at r2
      refine r2.trans ?_
      by_cases k2 : y2 / 64 = 2
      rotate_left
      ·rw [if_neg k2]
       exact (own_tup3 _ _ _ _).trans (fails (by unfold Lib.decodeN; rw [if_neg c1, if_neg (by omega), if_neg (by omega), if_neg (by omega)]))
      rw [if_pos k2]
      have r3 := rune_step (q + 4 + 1) (fun x H => ownTree ti0 E0.tp 177 H x) [] s (q + 2) i 3 (((x % 8) * 64 + y1 % 64) * 64 + y2 % 64) 3 65536 (by omega) (by omega) (by omega) (by omega) hs
      rw [hy3] at r3
      refine r3.trans ?_
      by_cases k3 : y3 / 64 = 2
      rotate_left
      ·rw [if_neg k3]
       exact (own_tup3 _ _ _ _).trans (fails (by unfold Lib.decodeN; rw [if_neg c1, if_neg (by omega), if_neg (by omega), if_neg (by omega)]))
      rw [if_pos k3]
      refine (rune_end (q + 4 + 1) (fun x H => ownTree ti0 E0.tp 177 H x) [] s (q + 4) rfl (q + 1) i 3 ((((x % 8) * 64 + y1 % 64) * 64 + y2 % 64) * 64 + y3 % 64) 65536 (by omega) (by omega) (by omega)).trans ?_
      have hv : (((x % 8) * 64 + y1 % 64) * 64 + y2 % 64) * 64 + y3 % 64 = x % 8 * 262144 + y1 % 64 * 4096 + y2 % 64 * 64 + y3 % 64 := by omega
      rw [hv]
      split
      ·exact (own_tup3 _ _ _ _).trans (goes _ 4 (by unfold Lib.decodeN; rw [if_neg c1, if_neg (by omega), if_neg (by omega), if_pos (by omega), if_pos (by omega)]) (by omega))
      ·exact (own_tup3 _ _ _ _).trans (fails (by unfold Lib.decodeN; rw [if_neg c1, if_neg (by omega), if_neg (by omega), if_pos (by omega), if_neg (by omega)]))
     ·refine w_cT (by simp; omega) ?_
      exact (own_tup3 _ _ _ _).trans (fails (by unfold Lib.decodeN; rw [if_neg c1, if_neg (by omega), if_neg (by omega), if_neg (by omega)]))
    ·refine w_cF (by rw [hb2]; simp; omega) ?_
     exact (own_tup3 _ _ _ _).trans (fails (by unfold Lib.decodeN; rw [if_neg c1, if_neg (by omega), if_neg (by omega), if_neg (by omega)]))
theorem inst_tup3 (N ty : Nat) (a b c : Value) : instT ti0 E0.tp N ty (.tup [.sc a, .sc b, .sc c]) = (.tup [.sc a, .sc b, .sc c], []) := rfl
theorem Vw_bytes (s : ByteArray) : Vw [⟨bytesAV s, true, false⟩] (.sl 0 0 s.size 1) (bytesC s) := fun X => by
 have e2 : rdCells ([⟨bytesAV s, true, false⟩] ++ X) 0 0 (s.size * 1) = some (bytesAV s) := by
  have hl := bytesAV_len s
  show (if (0 + s.size * 1 ≤ (bytesAV s).length) then some (((bytesAV s).drop 0).take (s.size * 1)) else none) = _
  rw [if_pos (by omega), List.drop_zero, Nat.mul_one, ← hl, List.take_length]
 rw [viewV_sl, e2, Option.bind_some]
 have e3 : (bytesAV s).mapM (viewV ([⟨bytesAV s, true, false⟩] ++ X) 7) = some (bytesAV s) := by
  rw [bytesAV_eq]
  exact mapM_sc _
 rw [e3]
 rfl
theorem w_extr {vs : List AV} {i : Nat} {x : AV} {K : AV → Option AV} {r : Option AV} (hx : vs[i]? = some x) (h : K x = r) : pExtr (.tup vs) i (fun t => K t) = r := by
 show (vs[i]?).bind _ = r
 rw [hx]
 exact h
theorem count_loop (n : Nat) (hn : 1048576 < n) (k : AV → Heap → Option AV) (s : ByteArray) (hs : s.size ≤ 60) : ∀ (b m pos c : Nat), s.size ≤ pos + b → pos ≤ s.size → c ≤ pos → b < m →
  ∃ r : Int, f141_l0 (PR (n + 2) AV) (n + 2) k m (.sl 0 0 s.size 1) (.sc (.int .i64 c)) (.sc (.int .i64 pos)) [⟨bytesAV s, true, false⟩] = k (.sc (.int .i64 r)) [⟨bytesAV s, true, false⟩] ∧ (textGo b (s.data.toList.drop pos) = true → 0 ≤ r) ∧ (textGo b (s.data.toList.drop pos) = false → r = -1)
 | b, m + 1, pos, c, hb, hp, hc, hm => by
  rw [f141_l0]
  simp only [PR_len, PR_bin, PR_cond, PR_extr, PR_un, PR_guard, PR_pick]
  have hlen : ∀ k : AV → Option AV, pLen (.sl 0 0 s.size 1) k = k (.sc (.int .i64 s.size)) := fun _ => rfl
  rw [hlen, lss_nat, cond_b]
  by_cases hlt : pos < s.size
  ·rw [if_pos (by simpa using hlt)]
   obtain ⟨b, rfl⟩ : ∃ b', b = b' + 1 := ⟨b - 1, by omega⟩
   have hne : s.data.toList.drop pos ≠ [] := by
    intro h
    have := congrArg List.length h
    simp at this
    omega
   have hw := Lib.decodeL_width (s.data.toList.drop pos)
   have hle := Lib.decodeL_le (s.data.toList.drop pos) hne
   have hll : (s.data.toList.drop pos).length = s.size - pos := by simp
   rw [hll] at hle
   rw [textGo, if_neg hne]
   generalize hd : Lib.decodeL (s.data.toList.drop pos) = d at hw hle ⊢
   have ht := runeAtF n hn s pos (by omega) hlt
   rw [hd] at ht
   rw [PR_call (vs := [bytesC s, .sc (.int .i64 pos)]) rfl (vcons (Vw_bytes s) (vcons (Vw_sc _ _) vnil)) ht]
   by_cases hf : d.1 = 65533 ∧ d.2 = 1
   ·rw [runeAV, if_pos hf, inst_tup3, List.append_nil, if_pos hf]
    refine ⟨-1, ?_, (fun h => by cases h), (fun _ => rfl)⟩
    refine w_extr rfl ?_
    refine w_extr rfl ?_
    refine w_extr rfl ?_
    refine w_not ?_
    refine w_hF rfl ?_
    refine w_hF rfl ?_
    refine w_pT rfl ?_
    refine w_cT rfl ?_
    rfl
   ·rw [runeAV, if_neg hf, inst_tup3, List.append_nil, if_neg hf]
    by_cases hz : d.1 = 0
    ·rw [if_pos hz]
     refine ⟨-1, ?_, (fun h => by cases h), (fun _ => rfl)⟩
     refine w_extr rfl ?_
     refine w_extr rfl ?_
     refine w_extr rfl ?_
     refine w_not ?_
     refine w_hT rfl ?_
     refine w_hT rfl ?_
     refine w_bin (v := .sc (.bool ((d.1 : Int) == 0))) (fun k => rfl) ?_
     refine w_pF rfl ?_
     refine w_cT (by simp [hz]) ?_
     rfl
    ·rw [if_neg hz, List.drop_drop]
     obtain ⟨r, h1, h2, h3⟩ := count_loop n hn k s hs b m (pos + d.2) (c + 1) (by omega) (by omega) (by omega) (by omega)
     refine ⟨r, ?_, h2, h3⟩
     refine w_extr rfl ?_
     refine w_extr rfl ?_
     refine w_extr rfl ?_
     refine w_not ?_
     refine w_hT rfl ?_
     refine w_hT rfl ?_
     refine w_bin (v := .sc (.bool ((d.1 : Int) == 0))) (fun k => rfl) ?_
     refine w_pF rfl ?_
     refine w_cF (by simp; omega) ?_
     rw [inc_nat _ _ (by omega)]
     exact h1
  ·rw [if_neg (by simpa using hlt)]
   have hnil : s.data.toList.drop pos = [] := by
    apply List.drop_of_length_le
    simp
    omega
   refine ⟨c, rfl, fun _ => by omega, fun h => ?_⟩
   rw [hnil] at h
   cases b <;> simp [textGo] at h
theorem countF (n : Nat) (hn : 1048576 < n) (ty : Nat) (s : ByteArray) : ∃ r : Int, tree E0 (n + 3) ty 141 [.sc (.string s)] = some (.sc (.int .i64 r)) ∧ (vTextOk s = true → 0 ≤ r) ∧ (vTextOk s = false → r = -1) := by
 rw [tree_def, f141_eq, f141]
 simp only [PR_lenS, PR_bin, PR_cond, PR_cvSB]
 unfold vTextOk
 by_cases h : s.size ≤ 60
 ·obtain ⟨r, h1, h2, h3⟩ := count_loop n hn (fun x H => ownTree ti0 E0.tp ty H x) s h s.size (n + 2) 0 0 (by omega) (by omega) (by omega) (by omega)
  refine ⟨r, ?_, ?_, ?_⟩
  ·refine w_lenS ?_
   refine w_bin (v := .sc (.bool (decide ((s.size : Int) > 60)))) (fun k => rfl) ?_
   refine w_cF (by simp; omega) ?_
   simp only [pCvSB, asS, Option.bind_some]
   rw [if_pos (by omega)]
   exact h1
  ·intro hv
   refine h2 ?_
   simpa [h] using hv
  ·intro hv
   refine h3 ?_
   simpa [h] using hv
 ·refine ⟨-1, ?_, (fun hv => by simp [h] at hv), (fun _ => rfl)⟩
  refine w_lenS ?_
  refine w_bin (v := .sc (.bool (decide ((s.size : Int) > 60)))) (fun k => rfl) ?_
  refine w_cT (by simp; omega) ?_
  rfl
theorem specTextF (n : Nat) (hn : 1048576 < n) (ty : Nat) (s : ByteArray) : tree E0 (n + 4) ty 82 [.sc (.string s)] = some (.sc (.bool (vTextOk s))) := by
 rw [tree_def, f82_eq, f82]
 simp only [PR_bin]
 obtain ⟨r, h1, h2, h3⟩ := countF n hn 3 s
 refine lw_sc rfl (vcons (Vw_sc _ _) vnil) h1 ?_
 refine w_bin (v := .sc (.bool (decide (r ≥ 0)))) (fun k => rfl) ?_
 refine w_endB ?_
 cases hv : vTextOk s
 ·rw [h3 hv]
  rfl
 ·simpa using h2 hv
theorem lw_ext {β : Type} {n : Nat} {H : Heap} {r : Option β} {ty f : Nat} {g : Nat → List AV → Option AV} {args vs : List AV} {v : Value} {K : AV → Heap → Option β} (hg : E0.ext f = some g) (hv : args.mapM (viewV H 8) = some vs) (ht : g ty vs = some (.sc v)) (h : K (.sc v) H = r) : (PR n β).call ty (.fn f [] []) args H (fun x H => K x H) = r := by
 rw [PR_ext hg hv ht, instT_sc, List.append_nil]
 exact h
theorem implTextF (ty : Nat) (s : ByteArray) (hs : okS s) : ext136 ty [.sc (.string s)] = some (.sc (.bool (vTextOk s))) := by
 have hm : maxLen = 9223372036854775807 := by decide
 show (if s.size ≤ maxLen then _ else _) = _
 rw [hm, if_pos (show s.size ≤ 9223372036854775807 from hs)]
end Go.Proofs.YtdameggfgnpehaaGreatDoor.Abs
set_option linter.unusedVariables false
set_option linter.unusedSimpArgs false
set_option maxRecDepth 100000
namespace Go.Proofs.YtdameggfgnpehaaGreatDoor.Abs
open Go
def vTopicOk (s : ByteArray) : Bool := vTextOk s && !(s.toList == (⟨#[]⟩ : ByteArray).toList) && !(vHas s 43) && !(vHas s 35) && decide (((vLevels s).length : Int) ≤ 6)
section
variable {β : Type} {n : Nat} {H : Heap} {r : Option β}
theorem lw_list {ty f len : Nat} {args vs cells : List AV} {K : AV → Heap → Option β} (hh : plainF f = false) (hv : args.mapM (viewV H 8) = some vs) (ht : tree E0 n ty f vs = some (.ro len cells)) (h : ∀ N X sz, K (.sl N 0 len sz) (H ++ X) = r) : (PR n β).call ty (.fn f [] []) args H (fun x H => K x H) = r := by
 rw [PR_call hh hv ht]
 exact h _ _ _
theorem w_endS {b b' : Bool} (h : b = b') : some (AV.sc (.bool b)) = some (AV.sc (.bool b')) := by rw [h]
theorem w_iadrE {α : Type} {w : Nat} {enc : α → List AV} {l pre t : List α} {x : α} {K : AV → Option β} (hw : ∀ x, (enc x).length = w) (h0 : 0 < w) (hl : l = pre ++ x :: t) (h : K (.rp (enc x ++ (t.map enc).flatten)) = r) : pIadr w (rowsC enc l) (.sc (.int .i64 (pre.length : Int))) (fun t => K t) = r := by
 subst hl
 exact (el_ro (β := β) hw h0 pre x t (fun t => K t)).trans h
theorem w_iadrP {α : Type} {w : Nat} {enc : α → List AV} {l pre t : List α} {K : AV → Option β} (hw : ∀ x, (enc x).length = w) (h0 : 0 < w) (hp : decide ((pre.length : Int) > 0) = true) (hl : l = pre ++ t) (hlen : l.length ≤ 1048576) (h : ∀ y, pre.getLast? = some y → K (.rp (enc y ++ (t.map enc).flatten)) = r) : pIadr w (rowsC enc l) (.sc (.int .i64 (IntKind.i64.wrap ((pre.length : Int) - 1)))) (fun t => K t) = r := by
 cases hg : pre.getLast? with
 | none =>
  rw [List.getLast?_eq_none_iff] at hg
  subst hg
  simp at hp
 | some y =>
  obtain ⟨p, rfl⟩ := List.getLast?_eq_some_iff.1 hg
  have hlp : p.length < 1048576 := by
   rw [hl] at hlen
   simp at hlen
   omega
  have e : IntKind.i64.wrap (((p ++ [y]).length : Int) - 1) = (p.length : Int) := by
   rw [List.length_append, List.length_singleton, wrap64 _ (by omega) (by omega)]
   omega
  rw [e]
  exact w_iadrE hw h0 (hl.trans (by simp)) (h y hg)
theorem w_lenL {id off m w : Nat} {K : AV → Option β} (h : K (.sc (.int .i64 m)) = r) : pLen (.sl id off m w) (fun t => K t) = r := h
end
section has
variable (n : Nat) (k : AV → Heap → Option AV) (H : Heap)
theorem has_loop (s : ByteArray) (b : UInt8) (hs : s.size ≤ 1048576) : ∀ (r pre : List UInt8) (m : Nat), s.data.toList = pre ++ r → r.length < m →
  f190_l0 (PR n AV) n k m (.sc (.string s)) (.sc (.int .u8 b.toNat)) (.sc (.int .i64 pre.length)) H = k (.sc (.bool (r.any fun c => c == b))) H
 | [], pre, m + 1, hl, hm => by
  have h1 : s.size = pre.length := by
   have := congrArg List.length hl
   simpa using this
  rw [f190_l0]
  simp only [PR_lenS, PR_bin, PR_cond]
  rw [lenSc, lss_nat, h1, cond_b, if_neg (by simp)]
  rfl
 | c :: r, pre, m + 1, hl, hm => by
  have h1 : s.size = pre.length + r.length + 1 := by
   have := congrArg List.length hl
   simpa [Nat.add_assoc] using this
  rw [f190_l0]
  simp only [PR_lenS, PR_bin, PR_cond, PR_idx]
  rw [lenSc, lss_nat, cond_b, if_pos (by simp; omega), idx_s s pre.length c _ (by rw [hl]; simp)]
  have he : ∀ K : AV → Option AV, pBin .eql (.sc (.int .u8 (c.toNat : Int))) (.sc (.int .u8 (b.toNat : Int))) K = K (.sc (.bool (c == b))) := by
   intro K
   show K (.sc (.bool ((c.toNat : Int) == (b.toNat : Int)))) = _
   congr 3
   rw [Bool.eq_iff_iff, beq_iff_eq, beq_iff_eq, Int.ofNat_inj, UInt8.toNat_inj]
  rw [he, cond_b, List.any_cons]
  cases hcb : (c == b)
  ·rw [if_neg (by simp), inc_nat _ _ (by omega)]
   have ih := has_loop s b hs r (pre ++ [c]) m (by rw [hl]; simp) (by simpa using hm)
   rw [List.length_append, List.length_singleton] at ih
   rw [ih]
   rfl
  ·rw [if_pos rfl]
   rfl
end has
theorem hasF (n : Nat) (hn : 1048576 < n) (ty : Nat) (s : ByteArray) (b : UInt8) (hs : s.size ≤ 1048576) : tree E0 (n + 1) ty 190 [.sc (.string s), .sc (.int .u8 b.toNat)] = some (.sc (.bool (vHas s b))) := by
 rw [tree_def, f190_eq, f190]
 have key := has_loop n (fun x H => ownTree ti0 E0.tp ty H x) [] s b hs s.data.toList [] n rfl (by simp; omega)
 simp only [List.length_nil, Int.natCast_zero] at key
 rw [key]
 rfl
theorem has43 (n : Nat) (hn : 1048576 < n) (ty : Nat) (s : ByteArray) (hs : s.size ≤ 1048576) : tree E0 (n + 1) ty 190 [.sc (.string s), .sc (.int .u8 43)] = some (.sc (.bool (vHas s 43))) := hasF n hn ty s 43 hs
theorem has35 (n : Nat) (hn : 1048576 < n) (ty : Nat) (s : ByteArray) (hs : s.size ≤ 1048576) : tree E0 (n + 1) ty 190 [.sc (.string s), .sc (.int .u8 35)] = some (.sc (.bool (vHas s 35))) := hasF n hn ty s 35 hs
theorem strs_ty : ∃ i j, ti0 73 = some i ∧ ti0 i.elem = some j ∧ j.size = 1 ∧ j.cty = [i.elem] := ⟨_, _, rfl, rfl, rfl, rfl⟩
def strC (l : List UInt8) : AV := .sc (.string (ofL l))
theorem ofL_extract (s : ByteArray) (P cur r : List UInt8) (h : s.data.toList = P ++ (cur ++ r)) : s.extract P.length (P.length + cur.length) = ofL cur := by
 have : (s.extract P.length (P.length + cur.length)).data.toList = cur := by
  rw [ByteArray.data_extract, Array.toList_extract, List.extract, h]
  rw [List.drop_append_of_le_length (Nat.le_refl _), List.drop_length, List.nil_append, Nat.add_sub_cancel_left, List.take_append_of_le_length (Nat.le_refl _), List.take_length]
 rw [← ofL_data (s.extract _ _), this]
theorem lev_piece {H : Heap} {x : AV} {cnt : Nat} {cells : List AV} {K : AV → Heap → Option AV} {r : Option AV} (s : ByteArray) (P cur rest : List UInt8) (hl : s.data.toList = P ++ (cur ++ rest)) (hs : s.size ≤ 1048576) (hx : OwnS 7 H 1 [9] x cnt cells) (hc : cnt ≤ 1048577)
  (h : ∀ x' H', OwnS 7 H' 1 [9] x' (cnt + 1) (cells ++ [strC cur]) → K x' H' = r) :
  (pSliceS (.sc (.string s)) (some (.sc (.int .i64 P.length))) (some (.sc (.int .i64 ((P.length + cur.length : Nat) : Int)))) fun t27 => (fillA [(.sc (.string ⟨#[]⟩))] [(0, 1, t27)]).bind fun ct28 => pNewSl 1 1 ct28 true H fun t28 H => pApp 1 16 x t28 H K) = r := by
 have hsz : P.length + cur.length ≤ s.size := by
  have := congrArg List.length hl
  simp at this
  omega
 simp only [pSliceS, asS, bound, asI, Option.bind_some]
 rw [if_pos (by omega)]
 simp only [Int.toNat_natCast]
 rw [ofL_extract s P cur rest hl]
 have hf : fillA [(.sc (.string ⟨#[]⟩))] [(0, 1, .sc (.string (ofL cur)))] = some [.sc (.string (ofL cur))] := rfl
 rw [hf, Option.bind_some]
 have key := app_one (H := H) (X := []) (bytes := 16) (er := [.sc (.string (ofL cur))]) (ec := [strC cur]) (eids := []) (K := K) (r := r) hx rfl rfl rfl List.nodup_nil (fun i hi => by cases hi) (by omega) h
 rw [List.append_nil] at key
 exact key
theorem lev_loop (n : Nat) (s : ByteArray) (hs : s.size ≤ 1048576) : ∀ (r P cur : List UInt8) (m : Nat) (x : AV) (H : Heap) (cnt : Nat) (cells : List AV), s.data.toList = P ++ (cur ++ r) → r.length + 1 < m → OwnS 7 H 1 [9] x cnt cells → cnt ≤ P.length →
  f191_l0 (PR n AV) n (fun x H => ownTree ti0 E0.tp 73 H x) m (.sc (.string s)) x (.sc (.int .i64 P.length)) (.sc (.int .i64 ((P.length + cur.length : Nat) : Int))) H = some (.ro (cnt + (lvL cur r).length) (cells ++ (lvL cur r).map strC))
 | [], P, cur, m + 2, x, H, cnt, cells, hl, hm, hx, hc => by
  have h1 : s.size = P.length + cur.length := by
   have := congrArg List.length hl
   simpa using this
  rw [f191_l0]
  simp only [PR_lenS, PR_bin, PR_cond, PR_guard, PR_pick, PR_sliceS, PR_fill, PR_newSl, PR_app, PR_idx]
  rw [lenSc, leq64, cond_b, if_pos (by simp; omega), lenSc, eql64]
  have he : (((P.length + cur.length : Nat) : Int) == (s.size : Int)) = true := by simp; omega
  refine w_hF he ?_
  refine w_hF he ?_
  refine w_hF he ?_
  refine w_hF he ?_
  refine w_pT he ?_
  refine w_cT rfl ?_
  refine lev_piece s P cur [] hl hs hx (by omega) fun x' H' hx' => ?_
  rw [inc_nat _ _ (by omega), inc_nat _ _ (by omega)]
  rw [f191_l0]
  simp only [PR_lenS, PR_bin, PR_cond]
  rw [lenSc, leq64, cond_b, if_neg (by simp; omega)]
  obtain ⟨i, j, e1, e2, e3, e4⟩ := strs_ty
  obtain ⟨ids, ho, hno⟩ := own_res (d := 7) (tyS := 73) (w := 1) (cty := [9]) ⟨_, _, rfl, rfl, rfl, rfl⟩ hx'
  rw [ownTree, ho, Option.bind_some, if_pos hno]
  rfl
 | c :: r, P, cur, m + 1, x, H, cnt, cells, hl, hm, hx, hc => by
  have h1 : s.size = P.length + cur.length + r.length + 1 := by
   have := congrArg List.length hl
   simp at this
   omega
  have hidx : s.data.toList[P.length + cur.length]? = some c := by
   rw [hl, ← List.append_assoc, ← List.length_append, List.getElem?_append_right (Nat.le_refl _), Nat.sub_self]
   rfl
  rw [f191_l0]
  simp only [PR_lenS, PR_bin, PR_cond, PR_guard, PR_pick, PR_sliceS, PR_fill, PR_newSl, PR_app, PR_idx]
  rw [lenSc, leq64, cond_b, if_pos (by simp; omega), lenSc, eql64]
  have he : (((P.length + cur.length : Nat) : Int) == (s.size : Int)) = false := by simp; omega
  refine w_hT he ?_
  refine w_hT he ?_
  refine w_hT he ?_
  rw [idx_s s (P.length + cur.length) c _ hidx]
  refine w_hT he ?_
  refine w_bin (v := .sc (.bool (c == 47))) (fun K => ?_) ?_
  ·show K (.sc (.bool ((c.toNat : Int) == (47 : Int)))) = _
   congr 3
   rw [Bool.eq_iff_iff, beq_iff_eq, beq_iff_eq, show (47 : Int) = (((47 : UInt8).toNat : Nat) : Int) from rfl, Int.ofNat_inj, UInt8.toNat_inj]
  refine w_pF he ?_
  rw [lvL]
  by_cases h47 : c = 47
  ·refine w_cT (by simp [h47]) ?_
   refine lev_piece s P cur (c :: r) hl hs hx (by omega) fun x' H' hx' => ?_
   rw [inc_nat _ _ (by omega), inc_nat _ _ (by omega), if_pos h47]
   have ih := lev_loop n s hs r (P ++ cur ++ [c]) [] m x' H' (cnt + 1) (cells ++ [strC cur]) (by rw [hl]; simp) (by simpa using hm) hx' (by simp; omega)
   simp only [List.length_append, List.length_nil, List.length_singleton, Nat.add_zero] at ih
   rw [ih]
   simp [Nat.add_assoc, Nat.add_comm]
  ·refine w_cF (by simpa using h47) ?_
   rw [inc_nat _ _ (by omega), if_neg h47]
   have ih := lev_loop n s hs r P (cur ++ [c]) m x H cnt cells (by rw [hl]; simp) (by simpa using hm) hx hc
   rw [List.length_append, List.length_singleton, ← Nat.add_assoc] at ih
   exact ih
theorem specLevelsF (n : Nat) (hn : 1048577 < n) (s : ByteArray) (hs : s.size ≤ 1048576) : tree E0 (n + 1) 73 191 [.sc (.string s)] = some (.ro (vLevels s).length ((vLevels s).map fun x => .sc (.string x))) := by
 rw [tree_def, f191_eq, f191]
 have key := lev_loop n s hs s.data.toList [] [] n .nl [] 0 [] rfl (by simp; omega) (OwnS.nil _ _ _ _) (by simp)
 simp only [List.length_nil, Int.natCast_zero, Nat.zero_add, List.nil_append] at key
 rw [key, vLevels, List.length_map, List.map_map]
 rfl
theorem implLevelsF (n : Nat) (s : ByteArray) (hs : s.size ≤ 1048576) : tree E0 (n + 1) 73 189 [.sc (.string s)] = some (.ro (vLevels s).length ((vLevels s).map fun x => .sc (.string x))) := by
 rw [tree_def, f189_eq, f189]
 have hg : ext202 73 [.sc (.string s), .sc (.string ⟨#[47]⟩)] = some (.ro (vLevels s).length ((vLevels s).map fun x => .sc (.string x))) := by
  unfold ext202
  exact if_pos ⟨rfl, rfl, by omega⟩
 rw [PR_ext (g := ext202) rfl (vcons (Vw_sc _ _) (vcons (Vw_sc _ _) vnil)) hg]
 refine own_ret [] _ _ ?_
 refine ⟨_, _, rfl, rfl, by simp, ?_⟩
 have := okLW_rows (f := okW ti0 E0.tp 7) (cty := [9]) (enc := fun x : ByteArray => [.sc (.string x)]) (vLevels s) (fun x _ => ⟨trivial, trivial⟩)
 rw [flat_one] at this
 exact this
theorem containsF (ty : Nat) (s : ByteArray) (hs : s.size ≤ 1048576) : ext188 ty [.sc (.string s), .sc (.string ⟨#[43, 35]⟩)] = some (.sc (.bool (vPH s))) := by
 unfold ext188
 exact if_pos ⟨rfl, by omega⟩
end Go.Proofs.YtdameggfgnpehaaGreatDoor.Abs
set_option linter.unusedVariables false
set_option linter.unusedSimpArgs false
set_option maxRecDepth 100000
namespace Go.Proofs.YtdameggfgnpehaaGreatDoor.Abs
open Go
theorem okS_of {s : ByteArray} (h : s.size ≤ 1048576) : okS s := Nat.le_trans h (by decide)
theorem specTopicF (n : Nat) (hn : 1048576 < n) (ty : Nat) (s : ByteArray) (hs : s.size ≤ 1048576) : tree E0 (n + 5) ty 173 [.sc (.string s)] = some (.sc (.bool (vTopicOk s))) := by
 rw [tree_def, f173_eq, f173]
 try simp only [PR_box, PR_new, PR_fadr, PR_load, PR_store, PR_bin, PR_binB, PR_binA, PR_un, PR_cond, PR_guard, PR_pick, PR_len, PR_lenS, PR_iadr, PR_idx, PR_slice, PR_sliceS, PR_newSl, PR_fill, PR_make, PR_app, PR_cvI, PR_cvBS]
 refine lw_sc rfl (vcons (Vw_sc _ _) vnil) (specTextF (n + 0) (by omega) _ s) ?_
 apply w_merge ((vTextOk s) && (!(s.toList == (⟨#[]⟩ : ByteArray).toList)))
 ·intro b1 q1
  refine w_split ((vTextOk s)) (fun h1 => ?_) (fun h1 => ?_)
  ·refine w_gT h1 ?_
   refine w_gT h1 ?_
   refine w_bin (v := .sc (.bool (!(s.toList == (⟨#[]⟩ : ByteArray).toList)))) (fun k => rfl) ?_
   refine w_pTb h1 (mAT q1 h1) ?_
   exact rfl
  ·refine w_gF h1 ?_
   refine w_gF h1 ?_
   refine w_pFb h1 (mAF q1 h1) ?_
   exact rfl
 intro b1 q1
 apply w_merge (b1 && (!(vHas s 43)))
 ·intro b2 q2
  refine w_split (b1) (fun h2 => ?_) (fun h2 => ?_)
  ·refine w_gT h2 ?_
   refine w_gT h2 ?_
   refine lw_sc rfl (vcons (Vw_sc _ _) (vcons (Vw_sc _ _) vnil)) (has43 (n + 3) (by omega) _ s hs) ?_
   refine w_gT h2 ?_
   refine w_not ?_
   refine w_pTb h2 (mAT q2 h2) ?_
   exact rfl
  ·refine w_gF h2 ?_
   refine w_gF h2 ?_
   refine w_gF h2 ?_
   refine w_pFb h2 (mAF q2 h2) ?_
   exact rfl
 intro b2 q2
 apply w_merge (b2 && (!(vHas s 35)))
 ·intro b3 q3
  refine w_split (b2) (fun h3 => ?_) (fun h3 => ?_)
  ·refine w_gT h3 ?_
   refine w_gT h3 ?_
   refine lw_sc rfl (vcons (Vw_sc _ _) (vcons (Vw_sc _ _) vnil)) (has35 (n + 3) (by omega) _ s hs) ?_
   refine w_gT h3 ?_
   refine w_not ?_
   refine w_pTb h3 (mAT q3 h3) ?_
   exact rfl
  ·refine w_gF h3 ?_
   refine w_gF h3 ?_
   refine w_gF h3 ?_
   refine w_pFb h3 (mAF q3 h3) ?_
   exact rfl
 intro b3 q3
 apply w_merge (b3 && (decide (((vLevels s).length : Int) ≤ 6)))
 ·intro b4 q4
  refine w_split (b3) (fun h4 => ?_) (fun h4 => ?_)
  ·refine w_gT h4 ?_
   refine w_gT h4 ?_
   refine lw_list rfl (vcons (Vw_sc _ _) vnil) (specLevelsF (n + 3) (by omega) s hs) fun N5 X5 z5 => ?_
   refine w_gT h4 ?_
   refine w_lenL ?_
   refine w_gT h4 ?_
   refine w_bin (v := .sc (.bool (decide (((vLevels s).length : Int) ≤ 6)))) (fun k => rfl) ?_
   refine w_pTb h4 (mAT q4 h4) ?_
   exact rfl
  ·refine w_gF h4 ?_
   refine w_gF h4 ?_
   refine w_gF h4 ?_
   refine w_gF h4 ?_
   refine w_pFb h4 (mAF q4 h4) ?_
   exact rfl
 intro b4 q4
 exact w_endS (by subst_vars; unfold vTopicOk; first | rfl | (unfold vPH; cases vTextOk s <;> cases vHas s 43 <;> cases vHas s 35 <;> simp))
theorem implTopicF (n : Nat) (hn : 1048576 < n) (ty : Nat) (s : ByteArray) (hs : s.size ≤ 1048576) : tree E0 (n + 5) ty 169 [.sc (.string s)] = some (.sc (.bool (vTopicOk s))) := by
 rw [tree_def, f169_eq, f169]
 try simp only [PR_box, PR_new, PR_fadr, PR_load, PR_store, PR_bin, PR_binB, PR_binA, PR_un, PR_cond, PR_guard, PR_pick, PR_len, PR_lenS, PR_iadr, PR_idx, PR_slice, PR_sliceS, PR_newSl, PR_fill, PR_make, PR_app, PR_cvI, PR_cvBS]
 refine lw_ext rfl (vcons (Vw_sc _ _) vnil) (implTextF _ s (okS_of hs)) ?_
 apply w_merge ((vTextOk s) && (!(s.toList == (⟨#[]⟩ : ByteArray).toList)))
 ·intro b1 q1
  refine w_split ((vTextOk s)) (fun h1 => ?_) (fun h1 => ?_)
  ·refine w_gT h1 ?_
   refine w_gT h1 ?_
   refine w_bin (v := .sc (.bool (!(s.toList == (⟨#[]⟩ : ByteArray).toList)))) (fun k => rfl) ?_
   refine w_pTb h1 (mAT q1 h1) ?_
   exact rfl
  ·refine w_gF h1 ?_
   refine w_gF h1 ?_
   refine w_pFb h1 (mAF q1 h1) ?_
   exact rfl
 intro b1 q1
 apply w_merge (b1 && (!(vPH s)))
 ·intro b2 q2
  refine w_split (b1) (fun h2 => ?_) (fun h2 => ?_)
  ·refine w_gT h2 ?_
   refine w_gT h2 ?_
   refine lw_ext rfl (vcons (Vw_sc _ _) (vcons (Vw_sc _ _) vnil)) (containsF _ s hs) ?_
   refine w_gT h2 ?_
   refine w_not ?_
   refine w_pTb h2 (mAT q2 h2) ?_
   exact rfl
  ·refine w_gF h2 ?_
   refine w_gF h2 ?_
   refine w_gF h2 ?_
   refine w_pFb h2 (mAF q2 h2) ?_
   exact rfl
 intro b2 q2
 apply w_merge (b2 && (decide (((vLevels s).length : Int) ≤ 6)))
 ·intro b3 q3
  refine w_split (b2) (fun h3 => ?_) (fun h3 => ?_)
  ·refine w_gT h3 ?_
   refine w_gT h3 ?_
   refine lw_list rfl (vcons (Vw_sc _ _) vnil) (implLevelsF (n + 3) s hs) fun N4 X4 z4 => ?_
   refine w_gT h3 ?_
   refine w_lenL ?_
   refine w_gT h3 ?_
   refine w_bin (v := .sc (.bool (decide (((vLevels s).length : Int) ≤ 6)))) (fun k => rfl) ?_
   refine w_pTb h3 (mAT q3 h3) ?_
   exact rfl
  ·refine w_gF h3 ?_
   refine w_gF h3 ?_
   refine w_gF h3 ?_
   refine w_gF h3 ?_
   refine w_pFb h3 (mAF q3 h3) ?_
   exact rfl
 intro b3 q3
 exact w_endS (by subst_vars; unfold vTopicOk; first | rfl | (unfold vPH; cases vTextOk s <;> cases vHas s 43 <;> cases vHas s 35 <;> simp))
def vMsgOk (m : MsgV) : Bool := vTopicOk m.fTopic && decide ((m.fBody.size : Int) ≤ 40) && vIn m.fQos 0 2
theorem isQosF (n : Nat) (ty : Nat) (x : Int) : tree E0 (n + 2) ty 170 [.sc (.int .i64 x)] = some (.sc (.bool (vIn x 0 2))) := by
 rw [tree_def, f170_eq, f170]
 try simp only [PR_box, PR_new, PR_fadr, PR_load, PR_store, PR_bin, PR_binB, PR_binA, PR_un, PR_cond, PR_guard, PR_pick, PR_len, PR_lenS, PR_iadr, PR_idx, PR_slice, PR_sliceS, PR_newSl, PR_fill, PR_make, PR_app, PR_cvI, PR_cvBS]
 refine lw_sc rfl (vcons (Vw_sc _ _) (vcons (Vw_sc _ _) (vcons (Vw_sc _ _) vnil))) (withinF (n + 0) _ x 0 2) ?_
 exact w_endB (by first | (simp_all [vIn, vTopicOk, vMsgOk]; done) | (rw [Bool.eq_iff_iff]; simp [vIn, vTopicOk, vMsgOk] at *; omega))
theorem specMsgF (n : Nat) (hn : 1048576 < n) (ty : Nat) (m : MsgV) (hs : m.fTopic.size ≤ 1048576) : tree E0 (n + 6) ty 142 [.agg (encMsg m)] = some (.sc (.bool (vMsgOk m))) := by
 rw [tree_def, f142_eq, f142]
 try simp only [PR_box, PR_new, PR_fadr, PR_load, PR_store, PR_bin, PR_binB, PR_binA, PR_un, PR_cond, PR_guard, PR_pick, PR_len, PR_lenS, PR_iadr, PR_idx, PR_slice, PR_sliceS, PR_newSl, PR_fill, PR_make, PR_app, PR_cvI, PR_cvBS]
 refine w_box (flMsg _) fun iB1 eB1 B1 => ?_
 refine w_fadr ?_
 refine w_ld (c := .sc (.string m.fTopic)) B1 (Nat.le_of_ble_eq_true rfl) rfl ?_
 refine lw_sc rfl (vcons (Vw_sc _ _) vnil) (specTopicF (n + 0) (by omega) _ m.fTopic (by assumption)) ?_
 apply w_merge ((vTopicOk m.fTopic) && (decide ((m.fBody.size : Int) ≤ 40)))
 ·intro b2 q2
  refine w_split ((vTopicOk m.fTopic)) (fun h2 => ?_) (fun h2 => ?_)
  ·refine w_gT h2 ?_
   refine w_fadr ?_
   refine w_gT h2 ?_
   refine w_ld (c := bytesC m.fBody) B1 (Nat.le_of_ble_eq_true rfl) rfl ?_
   refine w_gT h2 ?_
   refine w_len ?_
   refine w_gT h2 ?_
   refine w_bin (v := .sc (.bool (decide ((m.fBody.size : Int) ≤ 40)))) (fun k => rfl) ?_
   refine w_pTb h2 (mAT q2 h2) ?_
   exact rfl
  ·refine w_gF h2 ?_
   refine w_gF h2 ?_
   refine w_gF h2 ?_
   refine w_gF h2 ?_
   refine w_pFb h2 (mAF q2 h2) ?_
   exact rfl
 intro b2 q2
 apply w_merge (b2 && (vIn m.fQos 0 2))
 ·intro b3 q3
  refine w_split (b2) (fun h3 => ?_) (fun h3 => ?_)
  ·refine w_gT h3 ?_
   refine w_fadr ?_
   refine w_gT h3 ?_
   refine w_ld (c := .sc (.int .i64 m.fQos)) B1 (Nat.le_of_ble_eq_true rfl) rfl ?_
   refine w_gT h3 ?_
   refine lw_sc rfl (vcons (Vw_sc _ _) (vcons (Vw_sc _ _) (vcons (Vw_sc _ _) vnil))) (l1InF (n + 4) _ m.fQos 0 2) ?_
   refine w_pTb h3 (mAT q3 h3) ?_
   exact rfl
  ·refine w_gF h3 ?_
   refine w_gF h3 ?_
   refine w_gF h3 ?_
   refine w_pFb h3 (mAF q3 h3) ?_
   exact rfl
 intro b3 q3
 exact w_endB (by subst_vars; first | rfl | (simp only [vMsgOk]; done) | (simp only [vMsgOk]; ac_rfl))
theorem implMsgF (n : Nat) (hn : 1048576 < n) (ty : Nat) (m : MsgV) (hs : m.fTopic.size ≤ 1048576) : tree E0 (n + 6) ty 138 [.agg (encMsg m)] = some (.sc (.bool (vMsgOk m))) := by
 rw [tree_def, f138_eq, f138]
 try simp only [PR_box, PR_new, PR_fadr, PR_load, PR_store, PR_bin, PR_binB, PR_binA, PR_un, PR_cond, PR_guard, PR_pick, PR_len, PR_lenS, PR_iadr, PR_idx, PR_slice, PR_sliceS, PR_newSl, PR_fill, PR_make, PR_app, PR_cvI, PR_cvBS]
 refine w_box (flMsg _) fun iB1 eB1 B1 => ?_
 refine w_fadr ?_
 refine w_ld (c := .sc (.string m.fTopic)) B1 (Nat.le_of_ble_eq_true rfl) rfl ?_
 refine lw_sc rfl (vcons (Vw_sc _ _) vnil) (implTopicF (n + 0) (by omega) _ m.fTopic (by assumption)) ?_
 apply w_merge ((vTopicOk m.fTopic) && (decide ((m.fBody.size : Int) ≤ 40)))
 ·intro b2 q2
  refine w_split ((vTopicOk m.fTopic)) (fun h2 => ?_) (fun h2 => ?_)
  ·refine w_gT h2 ?_
   refine w_fadr ?_
   refine w_gT h2 ?_
   refine w_ld (c := bytesC m.fBody) B1 (Nat.le_of_ble_eq_true rfl) rfl ?_
   refine w_gT h2 ?_
   refine w_len ?_
   refine w_gT h2 ?_
   refine w_bin (v := .sc (.bool (decide ((m.fBody.size : Int) ≤ 40)))) (fun k => rfl) ?_
   refine w_pTb h2 (mAT q2 h2) ?_
   exact rfl
  ·refine w_gF h2 ?_
   refine w_gF h2 ?_
   refine w_gF h2 ?_
   refine w_gF h2 ?_
   refine w_pFb h2 (mAF q2 h2) ?_
   exact rfl
 intro b2 q2
 apply w_merge (b2 && (vIn m.fQos 0 2))
 ·intro b3 q3
  refine w_split (b2) (fun h3 => ?_) (fun h3 => ?_)
  ·refine w_gT h3 ?_
   refine w_fadr ?_
   refine w_gT h3 ?_
   refine w_ld (c := .sc (.int .i64 m.fQos)) B1 (Nat.le_of_ble_eq_true rfl) rfl ?_
   refine w_gT h3 ?_
   refine lw_sc rfl (vcons (Vw_sc _ _) vnil) (isQosF (n + 3) _ m.fQos) ?_
   refine w_pTb h3 (mAT q3 h3) ?_
   exact rfl
  ·refine w_gF h3 ?_
   refine w_gF h3 ?_
   refine w_gF h3 ?_
   refine w_pFb h3 (mAF q3 h3) ?_
   exact rfl
 intro b3 q3
 exact w_endB (by subst_vars; first | rfl | (simp only [vMsgOk]; done) | (simp only [vMsgOk]; ac_rfl))
def vQueueOk (l : List MsgV) : Bool := l.all vMsgOk && decide ((l.length : Int) ≤ 6)
theorem all_go {α : Type} (p : α → Bool) (e : Bool) (go : List α → List α → Bool) (h0 : ∀ pre, go pre [] = e) (h1 : ∀ pre x r, go pre (x :: r) = (p x && go (pre ++ [x]) r)) : ∀ (r pre : List α), go pre r = (r.all p && e)
 | [], pre => by rw [h0]; simp
 | x :: r, pre => by rw [h1, all_go p e go h0 h1 r, List.all_cons, Bool.and_assoc]
def goQs (l : List MsgV) : List MsgV → List MsgV → Bool
 | pre, [] => decide ((l.length : Int) ≤ 6)
 | pre, x :: r => vMsgOk x && goQs l (pre ++ [x]) r
theorem specQ_loop (n : Nat) (hn : 1048576 < n) (ty : Nat) (l : List MsgV) (hlen : l.length ≤ 1048576) (hsl : ∀ x ∈ l, x.fTopic.size ≤ 1048576) : ∀ (r pre : List MsgV) (m : Nat) (H : Heap), l = pre ++ r → r.length < m → f144_l0 (PR (n + 6) AV) (n + 6) (fun x H => ownTree ti0 E0.tp ty H x) m (rowsC encMsg l) (.sc (.int .i64 pre.length)) H = some (.sc (.bool (goQs l pre r)))
 | [], pre, m + 1, H, hl, hm => by
  have hlt : decide ((pre.length : Int) < (l.length : Int)) = false := by
   rw [hl]
   simp
  show (PR (n + 6) AV).len _ _ = _
  simp only [PR_box, PR_new, PR_fadr, PR_load, PR_store, PR_bin, PR_binB, PR_binA, PR_un, PR_cond, PR_guard, PR_pick, PR_len, PR_lenS, PR_iadr, PR_idx, PR_slice, PR_sliceS, PR_newSl, PR_fill, PR_make, PR_app, PR_cvI, PR_cvBS]
  refine w_len ?_
  refine w_bin (v := .sc (.bool (decide ((pre.length : Int) < (l.length : Int))))) (fun k => rfl) ?_
  refine w_cF hlt ?_
  refine w_len ?_
  refine w_bin (v := .sc (.bool (decide ((l.length : Int) ≤ 6)))) (fun k => rfl) ?_
  exact w_endB (by first | (subst_vars; simp only [goQs]; simp_all; done) | (subst_vars; unfold goQs; simp_all))
 | x :: r, pre, m + 1, H, hl, hm => by
  have hpl : pre.length < l.length := by rw [hl]; simp
  have hlt : decide ((pre.length : Int) < (l.length : Int)) = true := by simpa using hpl
  have hmem : x ∈ l := by rw [hl]; simp
  have hix : IntKind.i64.wrap ((pre.length : Int) + 1) = (((pre ++ [x]).length : Nat) : Int) := by
   rw [wrap64 _ (by omega) (by omega), List.length_append, List.length_singleton]
   rfl
  try have hs : x.fTopic.size ≤ 1048576 := hsl x (by assumption)
  show (PR (n + 6) AV).len _ _ = _
  simp only [PR_box, PR_new, PR_fadr, PR_load, PR_store, PR_bin, PR_binB, PR_binA, PR_un, PR_cond, PR_guard, PR_pick, PR_len, PR_lenS, PR_iadr, PR_idx, PR_slice, PR_sliceS, PR_newSl, PR_fill, PR_make, PR_app, PR_cvI, PR_cvBS]
  refine w_len ?_
  refine w_bin (v := .sc (.bool (decide ((pre.length : Int) < (l.length : Int))))) (fun k => rfl) ?_
  refine w_cT hlt ?_
  refine w_iadrE lenMsg (by decide) hl ?_
  refine w_ldA_rp (ds := encMsg x) (Nat.le_of_ble_eq_true rfl) rfl ?_
  refine lw_sc rfl (vcons (Vw_agg _ (flMsg _)) vnil) (specMsgF (n + 0) (by omega) _ x (by assumption)) ?_
  refine w_not ?_
  refine w_split ((vMsgOk x)) (fun h1 => ?_) (fun h1 => ?_)
  ·refine w_cF (nF h1) ?_
   refine w_bin (v := .sc (.int .i64 (IntKind.i64.wrap ((pre.length : Int) + 1)))) (fun k => rfl) ?_
   rw [hix]
   refine (specQ_loop n hn ty l hlen hsl r (pre ++ [x]) m _  (by rw [hl]; simp) (by simpa using hm)).trans (congrArg (fun b => some (AV.sc (Value.bool b))) ?_)
   first | (subst_vars; simp only [goQs]; simp_all; done) | (subst_vars; unfold goQs; simp_all)
  ·refine w_cT (nT h1) ?_
   exact w_endB (by first | (subst_vars; simp only [goQs]; simp_all; done) | (subst_vars; unfold goQs; simp_all))
def goQi : List MsgV → List MsgV → Bool
 | pre, [] => true
 | pre, x :: r => vMsgOk x && goQi (pre ++ [x]) r
theorem implQ_loop (n : Nat) (hn : 1048576 < n) (ty : Nat) (l : List MsgV) (hlen : l.length ≤ 1048576) (hsl : ∀ x ∈ l, x.fTopic.size ≤ 1048576) : ∀ (r pre : List MsgV) (m : Nat) (H : Heap), l = pre ++ r → r.length < m → f171_l0 (PR (n + 6) AV) (n + 6) (fun x H => ownTree ti0 E0.tp ty H x) m (rowsC encMsg l) (.sc (.int .i64 (l.length : Int))) (.sc (.int .i64 pre.length)) H = some (.sc (.bool (goQi pre r)))
 | [], pre, m + 1, H, hl, hm => by
  have hlt : decide ((pre.length : Int) < (l.length : Int)) = false := by
   rw [hl]
   simp
  show (PR (n + 6) AV).bin _ _ _ _ = _
  simp only [PR_box, PR_new, PR_fadr, PR_load, PR_store, PR_bin, PR_binB, PR_binA, PR_un, PR_cond, PR_guard, PR_pick, PR_len, PR_lenS, PR_iadr, PR_idx, PR_slice, PR_sliceS, PR_newSl, PR_fill, PR_make, PR_app, PR_cvI, PR_cvBS]
  refine w_bin (v := .sc (.bool (decide ((pre.length : Int) < (l.length : Int))))) (fun k => rfl) ?_
  refine w_cF hlt ?_
  exact w_endB (by first | (subst_vars; simp only [goQi]; simp_all; done) | (subst_vars; unfold goQi; simp_all))
 | x :: r, pre, m + 1, H, hl, hm => by
  have hpl : pre.length < l.length := by rw [hl]; simp
  have hlt : decide ((pre.length : Int) < (l.length : Int)) = true := by simpa using hpl
  have hmem : x ∈ l := by rw [hl]; simp
  have hix : IntKind.i64.wrap ((pre.length : Int) + 1) = (((pre ++ [x]).length : Nat) : Int) := by
   rw [wrap64 _ (by omega) (by omega), List.length_append, List.length_singleton]
   rfl
  try have hs : x.fTopic.size ≤ 1048576 := hsl x (by assumption)
  show (PR (n + 6) AV).bin _ _ _ _ = _
  simp only [PR_box, PR_new, PR_fadr, PR_load, PR_store, PR_bin, PR_binB, PR_binA, PR_un, PR_cond, PR_guard, PR_pick, PR_len, PR_lenS, PR_iadr, PR_idx, PR_slice, PR_sliceS, PR_newSl, PR_fill, PR_make, PR_app, PR_cvI, PR_cvBS]
  refine w_bin (v := .sc (.bool (decide ((pre.length : Int) < (l.length : Int))))) (fun k => rfl) ?_
  refine w_cT hlt ?_
  refine w_iadrE lenMsg (by decide) hl ?_
  refine w_ldA_rp (ds := encMsg x) (Nat.le_of_ble_eq_true rfl) rfl ?_
  refine lw_put rfl (lenMsg _) (fl_leaf (flMsg _)) fun iB1 B1 => ?_
  refine w_ldA (ds := encMsg x) B1 (Nat.le_of_ble_eq_true rfl) rfl ?_
  refine lw_sc rfl (vcons (Vw_agg _ (flMsg _)) vnil) (implMsgF (n + 0) (by omega) _ x (by assumption)) ?_
  refine w_not ?_
  refine w_split ((vMsgOk x)) (fun h2 => ?_) (fun h2 => ?_)
  ·refine w_cF (nF h2) ?_
   refine w_bin (v := .sc (.int .i64 (IntKind.i64.wrap ((pre.length : Int) + 1)))) (fun k => rfl) ?_
   rw [hix]
   refine (implQ_loop n hn ty l hlen hsl r (pre ++ [x]) m _  (by rw [hl]; simp) (by simpa using hm)).trans (congrArg (fun b => some (AV.sc (Value.bool b))) ?_)
   first | (subst_vars; simp only [goQi]; simp_all; done) | (subst_vars; unfold goQi; simp_all)
  ·refine w_cT (nT h2) ?_
   exact w_endB (by first | (subst_vars; simp only [goQi]; simp_all; done) | (subst_vars; unfold goQi; simp_all))
theorem specQueueF (n : Nat) (hn : 1048576 < n) (ty : Nat) (l : List MsgV) (hlen : l.length ≤ 1048576) (hsl : ∀ x ∈ l, x.fTopic.size ≤ 1048576) : tree E0 (n + 7) ty 144 [rowsC encMsg l] = some (.sc (.bool (vQueueOk l))) := by
 rw [tree_def, f144_eq, f144]
 have key := specQ_loop n hn ty l hlen hsl l [] (n + 6) [] rfl (by omega)
 rw [all_go vMsgOk (decide ((l.length : Int) ≤ 6)) (goQs l) (fun _ => rfl) (fun _ _ _ => rfl) l []] at key
 exact key
theorem implMsgsF (n : Nat) (hn : 1048576 < n) (ty : Nat) (l : List MsgV) (hlen : l.length ≤ 1048576) (hsl : ∀ x ∈ l, x.fTopic.size ≤ 1048576) : tree E0 (n + 7) ty 171 [rowsC encMsg l] = some (.sc (.bool (l.all vMsgOk))) := by
 rw [tree_def, f171_eq, f171]
 simp only [PR_len]
 refine w_len ?_
 have key := implQ_loop n hn ty l hlen hsl l [] (n + 6) [] rfl (by omega)
 rw [all_go vMsgOk true goQi (fun _ => rfl) (fun _ _ _ => rfl) l [], Bool.and_true] at key
 exact key
theorem implQueueF (n : Nat) (hn : 1048576 < n) (ty : Nat) (l : List MsgV) (hlen : l.length ≤ 1048576) (hsl : ∀ x ∈ l, x.fTopic.size ≤ 1048576) : tree E0 (n + 8) ty 140 [rowsC encMsg l] = some (.sc (.bool (vQueueOk l))) := by
 rw [tree_def, f140_eq, f140]
 try simp only [PR_box, PR_new, PR_fadr, PR_load, PR_store, PR_bin, PR_binB, PR_binA, PR_un, PR_cond, PR_guard, PR_pick, PR_len, PR_lenS, PR_iadr, PR_idx, PR_slice, PR_sliceS, PR_newSl, PR_fill, PR_make, PR_app, PR_cvI, PR_cvBS]
 refine w_len ?_
 refine w_bin (v := .sc (.bool (decide ((l.length : Int) ≤ 6)))) (fun k => rfl) ?_
 apply w_merge ((decide ((l.length : Int) ≤ 6)) && (l.all vMsgOk))
 ·intro b1 q1
  refine w_split ((decide ((l.length : Int) ≤ 6))) (fun h1 => ?_) (fun h1 => ?_)
  ·refine w_gT h1 ?_
   refine w_gT h1 ?_
   refine lw_sc rfl (vcons (Vw_ro _ _ _) vnil) (implMsgsF (n + 0) (by omega) _ l (by assumption) (by assumption)) ?_
   refine w_pTb h1 (mAT q1 h1) ?_
   exact rfl
  ·refine w_gF h1 ?_
   refine w_gF h1 ?_
   refine w_pFb h1 (mAF q1 h1) ?_
   exact rfl
 intro b1 q1
 exact w_endB (by subst_vars; unfold vQueueOk; rw [Bool.and_comm])
theorem queue_hyp (l : List MsgV) (b0 : wtL wtMsg l ≤ 1048576) : l.length ≤ 1048576 ∧ ∀ x ∈ l, x.fTopic.size ≤ 1048576 := by
 have h1 := wtL_eq wtMsg l
 refine ⟨by omega, fun x hx => ?_⟩
 have h2 := wtS_mem (wt := wtMsg) hx
 have h3 : wtMsg x = x.fTopic.size + (x.fBody.size + 0) := rfl
 omega
theorem specF_QueueOk (n : Nat) (hn : 1048576 < n) (l : List MsgV) (k0 : l.length ≤ 9223372036854775807 ∧ ∀ z ∈ l, okMsg z) (b0 : wtL wtMsg l ≤ 1048576) : tree E0 (n + 8) 4 144 [rowsC encMsg l] = some (.sc (.bool (vQueueOk l))) := specQueueF (n + 1) (by omega) _ l (queue_hyp l b0).1 (queue_hyp l b0).2
theorem implF_QueueOk (n : Nat) (hn : 1048576 < n) (l : List MsgV) (k0 : l.length ≤ 9223372036854775807 ∧ ∀ z ∈ l, okMsg z) (b0 : wtL wtMsg l ≤ 1048576) : tree E0 (n + 8) 4 140 [rowsC encMsg l] = some (.sc (.bool (vQueueOk l))) := implQueueF n hn _ l (queue_hyp l b0).1 (queue_hyp l b0).2
def vSt (x : FlightV) : Bool := if x.fM.fQos == 1 then x.fSt == 1 else (x.fM.fQos == 2 && (x.fSt == 2 || x.fSt == 3))
theorem l13StF (n : Nat) (ty : Nat) (x : FlightV) : tree E0 (n + 1) ty 143 [.agg (encFlight x)] = some (.sc (.bool (vSt x))) := by
 rw [tree_def, f143_eq, f143]
 try simp only [PR_box, PR_new, PR_fadr, PR_load, PR_store, PR_bin, PR_binB, PR_binA, PR_un, PR_cond, PR_guard, PR_pick, PR_len, PR_lenS, PR_iadr, PR_idx, PR_slice, PR_sliceS, PR_newSl, PR_fill, PR_make, PR_app, PR_cvI, PR_cvBS]
 refine w_box (flFlight _) fun iB1 eB1 B1 => ?_
 refine w_fadr ?_
 refine w_fadr ?_
 refine w_ld (c := .sc (.int .i64 x.fM.fQos)) B1 (Nat.le_of_ble_eq_true rfl) rfl ?_
 refine w_bin (v := .sc (.bool (x.fM.fQos == 1))) (fun k => rfl) ?_
 refine w_split ((x.fM.fQos == 1)) (fun h2 => ?_) (fun h2 => ?_)
 ·refine w_cT h2 ?_
  refine w_fadr ?_
  refine w_ld (c := .sc (.int .i64 x.fSt)) B1 (Nat.le_of_ble_eq_true rfl) rfl ?_
  refine w_bin (v := .sc (.bool (x.fSt == 1))) (fun k => rfl) ?_
  exact w_endB (by subst_vars; unfold vSt; simp_all)
 ·refine w_cF h2 ?_
  refine w_fadr ?_
  refine w_fadr ?_
  refine w_ld (c := .sc (.int .i64 x.fM.fQos)) B1 (Nat.le_of_ble_eq_true rfl) rfl ?_
  refine w_bin (v := .sc (.bool (x.fM.fQos == 2))) (fun k => rfl) ?_
  apply w_merge ((x.fM.fQos == 2) && ((x.fSt == 2) || (x.fSt == 3)))
  ·intro b3 q3
   refine w_split ((x.fM.fQos == 2)) (fun h3 => ?_) (fun h3 => ?_)
   ·refine w_gT h3 ?_
    refine w_fadr ?_
    refine w_gT h3 ?_
    refine w_ld (c := .sc (.int .i64 x.fSt)) B1 (Nat.le_of_ble_eq_true rfl) rfl ?_
    refine w_gT h3 ?_
    refine w_bin (v := .sc (.bool (x.fSt == 2))) (fun k => rfl) ?_
    refine w_gT h3 ?_
    apply w_merge ((x.fSt == 2) || (x.fSt == 3))
    ·intro b4 q4
     refine w_split ((x.fSt == 2)) (fun h4 => ?_) (fun h4 => ?_)
     ·refine w_hF h4 ?_
      refine w_hF h4 ?_
      refine w_hF h4 ?_
      refine w_gT h3 ?_
      refine w_pTb h4 (mOT q4 h4) ?_
      exact rfl
     ·refine w_hT h4 ?_
      refine w_fadr ?_
      refine w_hT h4 ?_
      refine w_ld (c := .sc (.int .i64 x.fSt)) B1 (Nat.le_of_ble_eq_true rfl) rfl ?_
      refine w_hT h4 ?_
      refine w_bin (v := .sc (.bool (x.fSt == 3))) (fun k => rfl) ?_
      refine w_gT h3 ?_
      refine w_pFb h4 (mOF q4 h4) ?_
      exact rfl
    intro b4 q4
    refine w_pTb h3 (by subst q4; exact mAT q3 h3) ?_
    exact rfl
   ·refine w_gF h3 ?_
    refine w_gF h3 ?_
    refine w_gF h3 ?_
    refine w_gF h3 ?_
    refine w_u ?_
    refine w_u ?_
    refine w_u ?_
    refine w_gF h3 ?_
    refine w_pFb h3 (mAF q3 h3) ?_
    exact rfl
  intro b3 q3
  exact w_endB (by subst_vars; unfold vSt; simp_all)
theorem isIdF (n : Nat) (ty : Nat) (x : Int) : tree E0 (n + 2) ty 137 [.sc (.int .i64 x)] = some (.sc (.bool (vIn x 1 65535))) := by
 rw [tree_def, f137_eq, f137]
 try simp only [PR_box, PR_new, PR_fadr, PR_load, PR_store, PR_bin, PR_binB, PR_binA, PR_un, PR_cond, PR_guard, PR_pick, PR_len, PR_lenS, PR_iadr, PR_idx, PR_slice, PR_sliceS, PR_newSl, PR_fill, PR_make, PR_app, PR_cvI, PR_cvBS]
 refine lw_sc rfl (vcons (Vw_sc _ _) (vcons (Vw_sc _ _) (vcons (Vw_sc _ _) vnil))) (withinF (n + 0) _ x 1 65535) ?_
 exact w_endB (by first | (simp_all [vIn, vTopicOk, vMsgOk, vQueueOk, vSt]; done) | (rw [Bool.eq_iff_iff]; simp [vIn, vTopicOk, vMsgOk, vQueueOk, vSt] at *; omega))
theorem isWordF (n : Nat) (ty : Nat) (x : Int) : tree E0 (n + 2) ty 139 [.sc (.int .i64 x)] = some (.sc (.bool (vIn x 0 65535))) := by
 rw [tree_def, f139_eq, f139]
 try simp only [PR_box, PR_new, PR_fadr, PR_load, PR_store, PR_bin, PR_binB, PR_binA, PR_un, PR_cond, PR_guard, PR_pick, PR_len, PR_lenS, PR_iadr, PR_idx, PR_slice, PR_sliceS, PR_newSl, PR_fill, PR_make, PR_app, PR_cvI, PR_cvBS]
 refine lw_sc rfl (vcons (Vw_sc _ _) (vcons (Vw_sc _ _) (vcons (Vw_sc _ _) vnil))) (withinF (n + 0) _ x 0 65535) ?_
 exact w_endB (by first | (simp_all [vIn, vTopicOk, vMsgOk, vQueueOk, vSt]; done) | (rw [Bool.eq_iff_iff]; simp [vIn, vTopicOk, vMsgOk, vQueueOk, vSt] at *; omega))
def flPre (pre : List FlightV) (x : FlightV) : Bool := pre.any fun y => y.fId == x.fId
def flGo : List FlightV → List FlightV → Bool
 | pre, [] => true
 | pre, x :: r => (vIn x.fId 1 65535 && vMsgOk x.fM && vSt x && !(flPre pre x)) && flGo (pre ++ [x]) r
def vOutOk (o : OutV) : Bool := flGo [] o.fFl && (vIn o.fLast 0 65535 && decide ((o.fFl.length : Int) ≤ 3) && vQueueOk o.fQ)
theorem fl_hyp (o : OutV) (b0 : wtOut o ≤ 1048576) : (o.fFl.length ≤ 1048576 ∧ ∀ x ∈ o.fFl, x.fM.fTopic.size ≤ 1048576) ∧ (o.fQ.length ≤ 1048576 ∧ ∀ x ∈ o.fQ, x.fTopic.size ≤ 1048576) := by
 have e : wtOut o = wtL wtFlight o.fFl + (wtL wtMsg o.fQ + 0) := rfl
 refine ⟨?_, queue_hyp _ (by omega)⟩
 have h1 := wtL_eq wtFlight o.fFl
 refine ⟨by omega, fun x hx => ?_⟩
 have h2 := wtS_mem (wt := wtFlight) hx
 have h3 : wtFlight x = x.fM.fTopic.size + (x.fM.fBody.size + 0) + 0 := rfl
 omega
theorem specFl_in (n : Nat) (ty : Nat) (o : OutV) (hlen : o.fFl.length ≤ 1048576) (x : FlightV) (g0 : AV → AV → Heap → Option AV) (kk : AV → Heap → Option AV) (i1 : Nat) (H : Heap) (B : H[i1]? = some ⟨encOut o, true, true⟩) (pre r : List FlightV) (hl : o.fFl = pre ++ x :: r) : ∀ (s p2 : List FlightV) (m : Nat), pre = p2 ++ s → s.length < m →
  f84_l1 (PR n AV) n g0 kk m (.ptr i1 0) (.sc (.int .i64 pre.length)) (.sc (.int .i64 p2.length)) H = if flPre s x then kk (.sc (.bool false)) H else g0 (.ptr i1 0) (.sc (.int .i64 (IntKind.i64.wrap ((pre.length : Int) + 1)))) H
 | [], p2, m + 1, he, hm => by
  rw [List.append_nil] at he
  subst he
  show (PR n AV).bin _ _ _ _ = _
  simp only [PR_bin, PR_cond, PR_fadr, PR_load, PR_iadr]
  rw [lss_nat, cond_b, if_neg (by simp)]
  rfl
 | y :: s, p2, m + 1, he, hm => by
  have hlt : p2.length < pre.length := by rw [he]; simp
  have hpl : pre.length < o.fFl.length := by rw [hl]; simp
  show (PR n AV).bin _ _ _ _ = _
  simp only [PR_bin, PR_cond, PR_fadr, PR_load, PR_iadr]
  rw [lss_nat, cond_b, if_pos (by simpa using hlt)]
  refine w_fadr ?_
  refine w_ld (c := rowsC encFlight o.fFl) B (Nat.le_of_ble_eq_true rfl) rfl ?_
  refine w_iadrE (pre := p2) (x := y) (t := s ++ x :: r) lenFlight (by decide) (by rw [hl, he]; simp) ?_
  refine w_fadr_rp ?_
  refine w_ld_rp (c := .sc (.int .i64 y.fId)) rfl ?_
  refine w_fadr ?_
  refine w_ld (c := rowsC encFlight o.fFl) B (Nat.le_of_ble_eq_true rfl) rfl ?_
  refine w_iadrE (pre := pre) (x := x) (t := r) lenFlight (by decide) hl ?_
  refine w_fadr_rp ?_
  refine w_ld_rp (c := .sc (.int .i64 x.fId)) rfl ?_
  refine w_bin (v := .sc (.bool (y.fId == x.fId))) (fun k => rfl) ?_
  have ih := specFl_in n ty o hlen x g0 kk i1 H B pre r hl s (p2 ++ [y]) m (by rw [he]; simp) (by simpa using hm)
  rw [List.length_append, List.length_singleton] at ih
  have hany : flPre (y :: s) x = (y.fId == x.fId || flPre s x) := rfl
  rw [hany]
  cases hid : (y.fId == x.fId)
  ·refine w_cF rfl ?_
   rw [inc_nat _ _ (by omega), ih]
   rfl
  ·exact w_cT rfl rfl
theorem idx_pre (p : FlightV → Bool) : ∀ (pre r : List FlightV) (x : FlightV) (i : Nat), p x = true → idxOf p (pre ++ x :: r) i = if pre.any p then idxOf p pre i else ((i + pre.length : Nat) : Int)
 | [], r, x, i, h => by simp [idxOf, h]
 | y :: pre, r, x, i, h => by
  rw [List.cons_append, idxOf, idx_pre p pre r x (i + 1) h, idxOf, List.any_cons]
  cases hy : p y
  ·simp only [Bool.false_eq_true, if_false, Bool.false_or, List.length_cons]
   rw [show i + 1 + pre.length = i + (pre.length + 1) by omega]
  ·simp
theorem idx_lt (p : FlightV → Bool) : ∀ (pre : List FlightV) (i : Nat), pre.any p = true → idxOf p pre i < ((i + pre.length : Nat) : Int)
 | [], i, h => by simp at h
 | y :: pre, i, h => by
  rw [idxOf]
  cases hy : p y
  ·rw [List.any_cons, hy, Bool.false_or] at h
   have := idx_lt p pre (i + 1) h
   simp only [Bool.false_eq_true, if_false, List.length_cons]
   omega
  ·simp only [if_true, List.length_cons]
   omega
theorem idx_self (o : OutV) (pre r : List FlightV) (x : FlightV) (hl : o.fFl = pre ++ x :: r) : (idxOf (fun y : FlightV => y.fId == x.fId) o.fFl 0 != (pre.length : Int)) = flPre pre x := by
 rw [hl, idx_pre _ pre r x 0 (by simp)]
 unfold flPre
 cases h : pre.any fun y => y.fId == x.fId
 ·simp
 ·have := idx_lt _ pre 0 h
  simp only [if_true]
  rw [bne_iff_ne.2]
  simp at this
  omega
theorem flightClo (n : Nat) (ty : Nat) (x : FlightV) (z : Int) : tree E0 (n + 1) ty 158 [.agg (encFlight x), .rp [.sc (.int .i64 z)]] = some (.sc (.bool (x.fId == z))) := by
 rw [tree_def, f158_eq, f158]
 simp only [PR_box, PR_fadr, PR_load, PR_bin]
 refine w_box (flFlight _) fun i e hi => ?_
 refine w_fadr ?_
 refine w_ld (c := .sc (.int .i64 x.fId)) hi (Nat.le_of_ble_eq_true rfl) rfl ?_
 refine w_ld_rp (c := .sc (.int .i64 z)) rfl ?_
 rw [eql64]
 rfl
theorem flightIndexF (n : Nat) (hn : 1048576 < n) (ty : Nat) (l : List FlightV) (z : Int) (hl : l.length ≤ 1048576) : tree E0 (n + 2) ty 157 [rowsC encFlight l, .fn 158 [] [.rp [.sc (.int .i64 z)]]] = some (.sc (.int .i64 (idxOf (fun y : FlightV => y.fId == z) l 0))) := by
 rw [tree_def, f157_eq, f157]
 simp only [PR_len]
 rw [len_ro]
 have key := index_loop (n := n + 1) (tb := 4) (g := 158) (caps := [.rp [.sc (.int .i64 z)]]) encFlight (fun y : FlightV => y.fId == z) (fun x H => ownTree ti0 E0.tp ty H x) lenFlight (by decide) flFlight rfl (fun H => rfl) (fun m a b c i H => f157_l0 (PR (n + 1) AV) (n + 1) (fun x H => ownTree ti0 E0.tp ty H x) m a b c i H) (fun m a b c i H => rfl) l (fun x _ => flightClo n _ x z) hl [] l [] (n + 1) rfl (by omega)
 simp only [List.length_nil, Int.natCast_zero] at key
 rw [key]
 rfl
theorem flightAtF (n : Nat) (hn : 1048576 < n) (ty : Nat) (l : List FlightV) (z : Int) (hl : l.length ≤ 1048576) : tree E0 (n + 3) ty 116 [rowsC encFlight l, .sc (.int .i64 z)] = some (.sc (.int .i64 (idxOf (fun y : FlightV => y.fId == z) l 0))) := by
 rw [tree_def, f116_eq, f116]
 simp only [PR_box]
 refine w_boxS rfl fun i2 e2 hi2 => ?_
 refine lw_sc rfl (vcons (Vw_ro _ _ _) (vcons (Vw_fn1 hi2 rfl) vnil)) (flightIndexF n hn _ l z hl) ?_
 rfl
theorem stEq (x : FlightV) (hv : vMsgOk x.fM = true) : vSt x = !((x.fM.fQos == 0) || (!((x.fM.fQos == 1) == (x.fSt == 1)) || !(vIn x.fSt 1 3))) := by
 have hq : 0 ≤ x.fM.fQos ∧ x.fM.fQos ≤ 2 := by
  unfold vMsgOk vIn at hv
  simp at hv
  exact hv.2
 unfold vSt vIn
 obtain h | h | h : x.fM.fQos = 0 ∨ x.fM.fQos = 1 ∨ x.fM.fQos = 2 := by omega
 ·simp [h]
 ·rw [h, Bool.eq_iff_iff]
  simp
  intro h1
  omega
 ·rw [h, Bool.eq_iff_iff]
  simp
  omega
def goOs (o : OutV) : List FlightV → List FlightV → Bool
 | pre, [] => vIn o.fLast 0 65535 && decide ((o.fFl.length : Int) ≤ 3) && vQueueOk o.fQ
 | pre, x :: r => (vIn x.fId 1 65535 && vMsgOk x.fM && vSt x && !(flPre pre x)) && goOs o (pre ++ [x]) r
theorem specFl_loop (n : Nat) (hn : 1048576 < n) (ty : Nat) (o : OutV) (hlen : o.fFl.length ≤ 1048576) (hsl : ∀ x ∈ o.fFl, x.fM.fTopic.size ≤ 1048576) (hqn : o.fQ.length ≤ 1048576) (hqs : ∀ x ∈ o.fQ, x.fTopic.size ≤ 1048576) (i1 : Nat) : ∀ (r pre : List FlightV) (m : Nat) (H : Heap) (B : H[i1]? = some ⟨encOut o, true, true⟩), o.fFl = pre ++ r → r.length < m → f84_l0 (PR (n + 8) AV) (n + 8) (fun x H => ownTree ti0 E0.tp ty H x) m (.ptr i1 0) (.sc (.int .i64 pre.length)) H = some (.sc (.bool (goOs o pre r)))
 | [], pre, m + 1, H, B, hl, hm => by
  have hlt : decide ((pre.length : Int) < (o.fFl.length : Int)) = false := by
   rw [hl]
   simp
  show (PR (n + 8) AV).fadr _ _ _ = _
  simp only [PR_box, PR_new, PR_fadr, PR_load, PR_store, PR_bin, PR_binB, PR_binA, PR_un, PR_cond, PR_guard, PR_pick, PR_len, PR_lenS, PR_iadr, PR_idx, PR_slice, PR_sliceS, PR_newSl, PR_fill, PR_make, PR_app, PR_cvI, PR_cvBS]
  refine w_fadr ?_
  refine w_ld (c := rowsC encFlight o.fFl) B (Nat.le_of_ble_eq_true rfl) rfl ?_
  refine w_len ?_
  refine w_bin (v := .sc (.bool (decide ((pre.length : Int) < (o.fFl.length : Int))))) (fun k => rfl) ?_
  refine w_cF hlt ?_
  refine w_fadr ?_
  refine w_ld (c := .sc (.int .i64 o.fLast)) B (Nat.le_of_ble_eq_true rfl) rfl ?_
  refine lw_sc rfl (vcons (Vw_sc _ _) (vcons (Vw_sc _ _) (vcons (Vw_sc _ _) vnil))) (l1InF (n + 7) _ o.fLast 0 65535) ?_
  apply w_merge ((vIn o.fLast 0 65535) && (decide ((o.fFl.length : Int) ≤ 3)))
  ·intro b1 q1
   refine w_split ((vIn o.fLast 0 65535)) (fun h1 => ?_) (fun h1 => ?_)
   ·refine w_gT h1 ?_
    refine w_fadr ?_
    refine w_gT h1 ?_
    refine w_ld (c := rowsC encFlight o.fFl) B (Nat.le_of_ble_eq_true rfl) rfl ?_
    refine w_gT h1 ?_
    refine w_len ?_
    refine w_gT h1 ?_
    refine w_bin (v := .sc (.bool (decide ((o.fFl.length : Int) ≤ 3)))) (fun k => rfl) ?_
    refine w_pTb h1 (mAT q1 h1) ?_
    exact rfl
   ·refine w_gF h1 ?_
    refine w_gF h1 ?_
    refine w_gF h1 ?_
    refine w_gF h1 ?_
    refine w_pFb h1 (mAF q1 h1) ?_
    exact rfl
  intro b1 q1
  apply w_merge (b1 && (vQueueOk o.fQ))
  ·intro b2 q2
   refine w_split (b1) (fun h2 => ?_) (fun h2 => ?_)
   ·refine w_gT h2 ?_
    refine w_fadr ?_
    refine w_gT h2 ?_
    refine w_ld (c := rowsC encMsg o.fQ) B (Nat.le_of_ble_eq_true rfl) rfl ?_
    refine w_gT h2 ?_
    refine lw_sc rfl (vcons (Vw_ro _ _ _) vnil) (specQueueF (n + 1) (by omega) _ o.fQ (by assumption) (by assumption)) ?_
    refine w_pTb h2 (mAT q2 h2) ?_
    exact rfl
   ·refine w_gF h2 ?_
    refine w_gF h2 ?_
    refine w_gF h2 ?_
    refine w_pFb h2 (mAF q2 h2) ?_
    exact rfl
  intro b2 q2
  exact w_endB (by (try clear ih); (try clear hlt); (try clear hix); (try clear hm); (try clear hmem); (try clear hpl); (try clear hsl); (try clear hlen); (try clear hqn); (try clear hqs); (try clear hs); (try clear B); (try clear B1); (try clear B2); (try clear hl); subst_vars; rw [goOs]; first | done | (cases h1 : vIn x.fId 1 65535 <;> cases h2 : vMsgOk x.fM <;> cases h3 : vSt x <;> cases h4 : flPre pre x <;> simp [h1, h2, h3, h4] at *))
 | x :: r, pre, m + 1, H, B, hl, hm => by
  have hpl : pre.length < o.fFl.length := by rw [hl]; simp
  have hlt : decide ((pre.length : Int) < (o.fFl.length : Int)) = true := by simpa using hpl
  have hmem : x ∈ o.fFl := by rw [hl]; simp
  have hix : IntKind.i64.wrap ((pre.length : Int) + 1) = (((pre ++ [x]).length : Nat) : Int) := by
   rw [wrap64 _ (by omega) (by omega), List.length_append, List.length_singleton]
   rfl
  try have hs : x.fM.fTopic.size ≤ 1048576 := hsl x (by assumption)
  show (PR (n + 8) AV).fadr _ _ _ = _
  simp only [PR_box, PR_new, PR_fadr, PR_load, PR_store, PR_bin, PR_binB, PR_binA, PR_un, PR_cond, PR_guard, PR_pick, PR_len, PR_lenS, PR_iadr, PR_idx, PR_slice, PR_sliceS, PR_newSl, PR_fill, PR_make, PR_app, PR_cvI, PR_cvBS]
  refine w_fadr ?_
  refine w_ld (c := rowsC encFlight o.fFl) B (Nat.le_of_ble_eq_true rfl) rfl ?_
  refine w_len ?_
  refine w_bin (v := .sc (.bool (decide ((pre.length : Int) < (o.fFl.length : Int))))) (fun k => rfl) ?_
  refine w_cT hlt ?_
  refine w_fadr ?_
  refine w_ld (c := rowsC encFlight o.fFl) B (Nat.le_of_ble_eq_true rfl) rfl ?_
  refine w_iadrE lenFlight (by decide) hl ?_
  refine w_fadr_rp ?_
  refine w_ld_rp (c := .sc (.int .i64 x.fId)) rfl ?_
  refine lw_sc rfl (vcons (Vw_sc _ _) (vcons (Vw_sc _ _) (vcons (Vw_sc _ _) vnil))) (l1InF (n + 7) _ x.fId 1 65535) ?_
  refine w_not ?_
  apply w_merge ((!(vIn x.fId 1 65535)) || (!(vMsgOk x.fM)))
  ·intro b1 q1
   refine w_split ((vIn x.fId 1 65535)) (fun h1 => ?_) (fun h1 => ?_)
   ·refine w_hT (nF h1) ?_
    refine w_fadr ?_
    refine w_hT (nF h1) ?_
    refine w_ld (c := rowsC encFlight o.fFl) B (Nat.le_of_ble_eq_true rfl) rfl ?_
    refine w_hT (nF h1) ?_
    refine w_hT (nF h1) ?_
    refine w_iadrE lenFlight (by decide) hl ?_
    refine w_hT (nF h1) ?_
    refine w_fadr_rp ?_
    refine w_hT (nF h1) ?_
    refine w_ldA_rp (ds := encMsg x.fM) (Nat.le_of_ble_eq_true rfl) rfl ?_
    refine w_hT (nF h1) ?_
    refine lw_sc rfl (vcons (Vw_agg _ (flMsg _)) vnil) (specMsgF (n + 2) (by omega) _ x.fM (by assumption)) ?_
    refine w_hT (nF h1) ?_
    refine w_not ?_
    refine w_pFb (nF h1) (mOF q1 (nF h1)) ?_
    exact rfl
   ·refine w_hF (nT h1) ?_
    refine w_hF (nT h1) ?_
    refine w_hF (nT h1) ?_
    refine w_hF (nT h1) ?_
    refine w_hF (nT h1) ?_
    refine w_hF (nT h1) ?_
    refine w_hF (nT h1) ?_
    refine w_hF (nT h1) ?_
    refine w_pTb (nT h1) (mOT q1 (nT h1)) ?_
    exact rfl
  intro b1 q1
  apply w_merge (b1 || (!(vSt x)))
  ·intro b2 q2
   refine w_split (b1) (fun h2 => ?_) (fun h2 => ?_)
   ·refine w_hF h2 ?_
    refine w_hF h2 ?_
    refine w_hF h2 ?_
    refine w_hF h2 ?_
    refine w_hF h2 ?_
    refine w_hF h2 ?_
    refine w_hF h2 ?_
    refine w_pTb h2 (mOT q2 h2) ?_
    exact rfl
   ·refine w_hT h2 ?_
    refine w_fadr ?_
    refine w_hT h2 ?_
    refine w_ld (c := rowsC encFlight o.fFl) B (Nat.le_of_ble_eq_true rfl) rfl ?_
    refine w_hT h2 ?_
    refine w_hT h2 ?_
    refine w_iadrE lenFlight (by decide) hl ?_
    refine w_hT h2 ?_
    refine w_ldA_rp (ds := encFlight x) (Nat.le_of_ble_eq_true rfl) rfl ?_
    refine w_hT h2 ?_
    refine lw_sc rfl (vcons (Vw_agg _ (flFlight _)) vnil) (l13StF (n + 7) _ x) ?_
    refine w_hT h2 ?_
    refine w_not ?_
    refine w_pFb h2 (mOF q2 h2) ?_
    exact rfl
  intro b2 q2
  refine w_split (b2) (fun h3 => ?_) (fun h3 => ?_)
  ·refine w_cT h3 ?_
   exact w_endB (by (try clear ih); (try clear hlt); (try clear hix); (try clear hm); (try clear hmem); (try clear hpl); (try clear hsl); (try clear hlen); (try clear hqn); (try clear hqs); (try clear hs); (try clear B); (try clear B1); (try clear B2); (try clear hl); subst_vars; rw [goOs]; first | done | (cases h1 : vIn x.fId 1 65535 <;> cases h2 : vMsgOk x.fM <;> cases h3 : vSt x <;> cases h4 : flPre pre x <;> simp [h1, h2, h3, h4] at *))
  ·refine w_cF h3 ?_
   have key := fun g0 kk => specFl_in (n + 8) ty o hlen x g0 kk i1 H B pre r hl pre [] (n + 8) rfl (by omega)
   simp only [List.length_nil, Int.natCast_zero] at key
   rw [key]
   clear key
   cases hpre : flPre pre x
   ·simp only [Bool.false_eq_true, if_false]
    rw [hix]
    refine (specFl_loop n hn ty o hlen hsl hqn hqs i1 r (pre ++ [x]) m _ B (by rw [hl]; simp) (by simpa using hm)).trans (congrArg (fun b => some (AV.sc (Value.bool b))) ?_)
    (try clear ih); (try clear hlt); (try clear hix); (try clear hm); (try clear hmem); (try clear hpl); (try clear hsl); (try clear hlen); (try clear hqn); (try clear hqs); (try clear hs); (try clear B); (try clear B1); (try clear B2); (try clear hl); subst_vars; rw [goOs]; first | done | (cases h1 : vIn x.fId 1 65535 <;> cases h2 : vMsgOk x.fM <;> cases h3 : vSt x <;> cases h4 : flPre pre x <;> simp [h1, h2, h3, h4] at *)
   ·simp only [if_true]
    exact w_endB (by (try clear ih); (try clear hlt); (try clear hix); (try clear hm); (try clear hmem); (try clear hpl); (try clear hsl); (try clear hlen); (try clear hqn); (try clear hqs); (try clear hs); (try clear B); (try clear B1); (try clear B2); (try clear hl); subst_vars; rw [goOs]; first | done | (cases h1 : vIn x.fId 1 65535 <;> cases h2 : vMsgOk x.fM <;> cases h3 : vSt x <;> cases h4 : flPre pre x <;> simp [h1, h2, h3, h4] at *))
theorem implFl_loop (n : Nat) (hn : 1048576 < n) (ty : Nat) (o : OutV) (hlen : o.fFl.length ≤ 1048576) (hsl : ∀ x ∈ o.fFl, x.fM.fTopic.size ≤ 1048576) (hqn : o.fQ.length ≤ 1048576) (hqs : ∀ x ∈ o.fQ, x.fTopic.size ≤ 1048576) (i1 : Nat) : ∀ (r pre : List FlightV) (m : Nat) (H : Heap) (B : H[i1]? = some ⟨encOut o, true, true⟩), o.fFl = pre ++ r → r.length < m → f80_l0 (PR (n + 9) AV) (n + 9) (fun x H => ownTree ti0 E0.tp ty H x) m (.ptr i1 0) (rowsC encFlight o.fFl) (.sc (.int .i64 (o.fFl.length : Int))) (.sc (.int .i64 pre.length)) H = some (.sc (.bool (goOs o pre r)))
 | [], pre, m + 1, H, B, hl, hm => by
  have hlt : decide ((pre.length : Int) < (o.fFl.length : Int)) = false := by
   rw [hl]
   simp
  show (PR (n + 9) AV).bin _ _ _ _ = _
  simp only [PR_box, PR_new, PR_fadr, PR_load, PR_store, PR_bin, PR_binB, PR_binA, PR_un, PR_cond, PR_guard, PR_pick, PR_len, PR_lenS, PR_iadr, PR_idx, PR_slice, PR_sliceS, PR_newSl, PR_fill, PR_make, PR_app, PR_cvI, PR_cvBS]
  refine w_bin (v := .sc (.bool (decide ((pre.length : Int) < (o.fFl.length : Int))))) (fun k => rfl) ?_
  refine w_cF hlt ?_
  refine w_fadr ?_
  refine w_ld (c := .sc (.int .i64 o.fLast)) B (Nat.le_of_ble_eq_true rfl) rfl ?_
  refine lw_sc rfl (vcons (Vw_sc _ _) vnil) (isWordF (n + 7) _ o.fLast) ?_
  apply w_merge ((vIn o.fLast 0 65535) && (decide ((o.fFl.length : Int) ≤ 3)))
  ·intro b1 q1
   refine w_split ((vIn o.fLast 0 65535)) (fun h1 => ?_) (fun h1 => ?_)
   ·refine w_gT h1 ?_
    refine w_fadr ?_
    refine w_gT h1 ?_
    refine w_ld (c := rowsC encFlight o.fFl) B (Nat.le_of_ble_eq_true rfl) rfl ?_
    refine w_gT h1 ?_
    refine w_len ?_
    refine w_gT h1 ?_
    refine w_bin (v := .sc (.bool (decide ((o.fFl.length : Int) ≤ 3)))) (fun k => rfl) ?_
    refine w_pTb h1 (mAT q1 h1) ?_
    exact rfl
   ·refine w_gF h1 ?_
    refine w_gF h1 ?_
    refine w_gF h1 ?_
    refine w_gF h1 ?_
    refine w_pFb h1 (mAF q1 h1) ?_
    exact rfl
  intro b1 q1
  apply w_merge (b1 && (vQueueOk o.fQ))
  ·intro b2 q2
   refine w_split (b1) (fun h2 => ?_) (fun h2 => ?_)
   ·refine w_gT h2 ?_
    refine w_fadr ?_
    refine w_gT h2 ?_
    refine w_ld (c := rowsC encMsg o.fQ) B (Nat.le_of_ble_eq_true rfl) rfl ?_
    refine w_gT h2 ?_
    refine lw_sc rfl (vcons (Vw_ro _ _ _) vnil) (implQueueF (n + 1) (by omega) _ o.fQ (by assumption) (by assumption)) ?_
    refine w_pTb h2 (mAT q2 h2) ?_
    exact rfl
   ·refine w_gF h2 ?_
    refine w_gF h2 ?_
    refine w_gF h2 ?_
    refine w_pFb h2 (mAF q2 h2) ?_
    exact rfl
  intro b2 q2
  exact w_endB (by (try clear ih); (try clear hlt); (try clear hix); (try clear hm); (try clear hmem); (try clear hpl); (try clear hsl); (try clear hlen); (try clear hqn); (try clear hqs); (try clear hs); (try clear B); (try clear B1); (try clear B2); (try clear hl); subst_vars; rw [goOs]; first | done | (cases h2 : vMsgOk x.fM <;> (try rw [stEq x h2]) <;> cases h1 : vIn x.fId 1 65535 <;> cases h4 : flPre pre x <;> cases h5 : (x.fM.fQos == 0) <;> cases h6 : ((x.fM.fQos == 1) == (x.fSt == 1)) <;> cases h7 : vIn x.fSt 1 3 <;> simp [h1, h2, h4, h5, h6, h7] at * <;> contradiction))
 | x :: r, pre, m + 1, H, B, hl, hm => by
  have hpl : pre.length < o.fFl.length := by rw [hl]; simp
  have hlt : decide ((pre.length : Int) < (o.fFl.length : Int)) = true := by simpa using hpl
  have hmem : x ∈ o.fFl := by rw [hl]; simp
  have hix : IntKind.i64.wrap ((pre.length : Int) + 1) = (((pre ++ [x]).length : Nat) : Int) := by
   rw [wrap64 _ (by omega) (by omega), List.length_append, List.length_singleton]
   rfl
  try have hs : x.fM.fTopic.size ≤ 1048576 := hsl x (by assumption)
  try have hidx := idx_self o pre r x hl
  show (PR (n + 9) AV).bin _ _ _ _ = _
  simp only [PR_box, PR_new, PR_fadr, PR_load, PR_store, PR_bin, PR_binB, PR_binA, PR_un, PR_cond, PR_guard, PR_pick, PR_len, PR_lenS, PR_iadr, PR_idx, PR_slice, PR_sliceS, PR_newSl, PR_fill, PR_make, PR_app, PR_cvI, PR_cvBS]
  refine w_bin (v := .sc (.bool (decide ((pre.length : Int) < (o.fFl.length : Int))))) (fun k => rfl) ?_
  refine w_cT hlt ?_
  refine w_iadrE lenFlight (by decide) hl ?_
  refine w_ldA_rp (ds := encFlight x) (Nat.le_of_ble_eq_true rfl) rfl ?_
  refine lw_put rfl (lenFlight _) (fl_leaf (flFlight _)) fun iB1 B1 => ?_
  replace B := blk_grow B [⟨encFlight x, true, true⟩]
  refine w_fadr ?_
  refine w_ld (c := .sc (.int .i64 x.fId)) B1 (Nat.le_of_ble_eq_true rfl) rfl ?_
  refine lw_sc rfl (vcons (Vw_sc _ _) vnil) (isIdF (n + 7) _ x.fId) ?_
  refine w_not ?_
  apply w_merge ((!(vIn x.fId 1 65535)) || ((idxOf (fun y : FlightV => y.fId == x.fId) o.fFl 0) != (pre.length : Int)))
  ·intro b2 q2
   refine w_split ((vIn x.fId 1 65535)) (fun h2 => ?_) (fun h2 => ?_)
   ·refine w_hT (nF h2) ?_
    refine w_fadr ?_
    refine w_hT (nF h2) ?_
    refine w_ld (c := rowsC encFlight o.fFl) B (Nat.le_of_ble_eq_true rfl) rfl ?_
    refine w_hT (nF h2) ?_
    refine w_fadr ?_
    refine w_hT (nF h2) ?_
    refine w_ld (c := .sc (.int .i64 x.fId)) B1 (Nat.le_of_ble_eq_true rfl) rfl ?_
    refine w_hT (nF h2) ?_
    refine lw_sc rfl (vcons (Vw_ro _ _ _) (vcons (Vw_sc _ _) vnil)) (flightAtF (n + 6) (by omega) _ o.fFl x.fId hlen) ?_
    refine w_hT (nF h2) ?_
    refine w_hT (nF h2) ?_
    refine w_bin (v := .sc (.bool ((idxOf (fun y : FlightV => y.fId == x.fId) o.fFl 0) != (pre.length : Int)))) (fun k => rfl) ?_
    refine w_pFb (nF h2) (mOF q2 (nF h2)) ?_
    exact rfl
   ·refine w_hF (nT h2) ?_
    refine w_hF (nT h2) ?_
    refine w_hF (nT h2) ?_
    refine w_hF (nT h2) ?_
    refine w_hF (nT h2) ?_
    refine w_hF (nT h2) ?_
    refine w_hF (nT h2) ?_
    refine w_pTb (nT h2) (mOT q2 (nT h2)) ?_
    exact rfl
  intro b2 q2
  apply w_merge (b2 || (!(vMsgOk x.fM)))
  ·intro b3 q3
   refine w_split (b2) (fun h3 => ?_) (fun h3 => ?_)
   ·refine w_hF h3 ?_
    refine w_hF h3 ?_
    refine w_hF h3 ?_
    refine w_hF h3 ?_
    refine w_pTb h3 (mOT q3 h3) ?_
    exact rfl
   ·refine w_hT h3 ?_
    refine w_fadr ?_
    refine w_hT h3 ?_
    refine w_ldA (ds := encMsg x.fM) B1 (Nat.le_of_ble_eq_true rfl) rfl ?_
    refine w_hT h3 ?_
    refine lw_sc rfl (vcons (Vw_agg _ (flMsg _)) vnil) (implMsgF (n + 3) (by omega) _ x.fM (by assumption)) ?_
    refine w_hT h3 ?_
    refine w_not ?_
    refine w_pFb h3 (mOF q3 h3) ?_
    exact rfl
  intro b3 q3
  refine w_split (b3) (fun h4 => ?_) (fun h4 => ?_)
  ·refine w_cT h4 ?_
   exact w_endB (by (try clear ih); (try clear hlt); (try clear hix); (try clear hm); (try clear hmem); (try clear hpl); (try clear hsl); (try clear hlen); (try clear hqn); (try clear hqs); (try clear hs); (try clear B); (try clear B1); (try clear B2); (try clear hl); subst_vars; rw [goOs]; first | done | (cases h2 : vMsgOk x.fM <;> (try rw [stEq x h2]) <;> cases h1 : vIn x.fId 1 65535 <;> cases h4 : flPre pre x <;> cases h5 : (x.fM.fQos == 0) <;> cases h6 : ((x.fM.fQos == 1) == (x.fSt == 1)) <;> cases h7 : vIn x.fSt 1 3 <;> simp [h1, h2, h4, h5, h6, h7] at * <;> contradiction))
  ·refine w_cF h4 ?_
   refine w_fadr ?_
   refine w_fadr ?_
   refine w_ld (c := .sc (.int .i64 x.fM.fQos)) B1 (Nat.le_of_ble_eq_true rfl) rfl ?_
   refine w_bin (v := .sc (.bool (x.fM.fQos == 0))) (fun k => rfl) ?_
   apply w_merge ((x.fM.fQos == 0) || (!((x.fM.fQos == 1) == (x.fSt == 1))))
   ·intro b5 q5
    refine w_split ((x.fM.fQos == 0)) (fun h5 => ?_) (fun h5 => ?_)
    ·refine w_hF h5 ?_
     refine w_hF h5 ?_
     refine w_hF h5 ?_
     refine w_hF h5 ?_
     refine w_hF h5 ?_
     refine w_hF h5 ?_
     refine w_hF h5 ?_
     refine w_hF h5 ?_
     refine w_pTb h5 (mOT q5 h5) ?_
     exact rfl
    ·refine w_hT h5 ?_
     refine w_fadr ?_
     refine w_hT h5 ?_
     refine w_fadr ?_
     refine w_hT h5 ?_
     refine w_ld (c := .sc (.int .i64 x.fM.fQos)) B1 (Nat.le_of_ble_eq_true rfl) rfl ?_
     refine w_hT h5 ?_
     refine w_bin (v := .sc (.bool (x.fM.fQos == 1))) (fun k => rfl) ?_
     refine w_hT h5 ?_
     refine w_fadr ?_
     refine w_hT h5 ?_
     refine w_ld (c := .sc (.int .i64 x.fSt)) B1 (Nat.le_of_ble_eq_true rfl) rfl ?_
     refine w_hT h5 ?_
     refine w_bin (v := .sc (.bool (x.fSt == 1))) (fun k => rfl) ?_
     refine w_hT h5 ?_
     refine w_binB (v := .sc (.bool (!((x.fM.fQos == 1) == (x.fSt == 1))))) (fun k => rfl) ?_
     refine w_pFb h5 (mOF q5 h5) ?_
     exact rfl
   intro b5 q5
   apply w_merge (b5 || (!(vIn x.fSt 1 3)))
   ·intro b6 q6
    refine w_split (b5) (fun h6 => ?_) (fun h6 => ?_)
    ·refine w_hF h6 ?_
     refine w_hF h6 ?_
     refine w_hF h6 ?_
     refine w_hF h6 ?_
     refine w_pTb h6 (mOT q6 h6) ?_
     exact rfl
    ·refine w_hT h6 ?_
     refine w_fadr ?_
     refine w_hT h6 ?_
     refine w_ld (c := .sc (.int .i64 x.fSt)) B1 (Nat.le_of_ble_eq_true rfl) rfl ?_
     refine w_hT h6 ?_
     refine lw_sc rfl (vcons (Vw_sc _ _) (vcons (Vw_sc _ _) (vcons (Vw_sc _ _) vnil))) (withinF (n + 8) _ x.fSt 1 3) ?_
     refine w_hT h6 ?_
     refine w_not ?_
     refine w_pFb h6 (mOF q6 h6) ?_
     exact rfl
   intro b6 q6
   refine w_split (b6) (fun h7 => ?_) (fun h7 => ?_)
   ·refine w_cT h7 ?_
    exact w_endB (by (try clear ih); (try clear hlt); (try clear hix); (try clear hm); (try clear hmem); (try clear hpl); (try clear hsl); (try clear hlen); (try clear hqn); (try clear hqs); (try clear hs); (try clear B); (try clear B1); (try clear B2); (try clear hl); subst_vars; rw [goOs]; first | done | (cases h2 : vMsgOk x.fM <;> (try rw [stEq x h2]) <;> cases h1 : vIn x.fId 1 65535 <;> cases h4 : flPre pre x <;> cases h5 : (x.fM.fQos == 0) <;> cases h6 : ((x.fM.fQos == 1) == (x.fSt == 1)) <;> cases h7 : vIn x.fSt 1 3 <;> simp [h1, h2, h4, h5, h6, h7] at * <;> contradiction))
   ·refine w_cF h7 ?_
    refine w_bin (v := .sc (.int .i64 (IntKind.i64.wrap ((pre.length : Int) + 1)))) (fun k => rfl) ?_
    rw [hix]
    refine (implFl_loop n hn ty o hlen hsl hqn hqs i1 r (pre ++ [x]) m _ B (by rw [hl]; simp) (by simpa using hm)).trans (congrArg (fun b => some (AV.sc (Value.bool b))) ?_)
    (try clear ih); (try clear hlt); (try clear hix); (try clear hm); (try clear hmem); (try clear hpl); (try clear hsl); (try clear hlen); (try clear hqn); (try clear hqs); (try clear hs); (try clear B); (try clear B1); (try clear B2); (try clear hl); subst_vars; rw [goOs]; first | done | (cases h2 : vMsgOk x.fM <;> (try rw [stEq x h2]) <;> cases h1 : vIn x.fId 1 65535 <;> cases h4 : flPre pre x <;> cases h5 : (x.fM.fQos == 0) <;> cases h6 : ((x.fM.fQos == 1) == (x.fSt == 1)) <;> cases h7 : vIn x.fSt 1 3 <;> simp [h1, h2, h4, h5, h6, h7] at * <;> contradiction)
theorem goOs_go (o : OutV) : ∀ (r pre : List FlightV), goOs o pre r = (flGo pre r && (vIn o.fLast 0 65535 && decide ((o.fFl.length : Int) ≤ 3) && vQueueOk o.fQ))
 | [], pre => by rw [goOs, flGo, Bool.true_and]
 | x :: r, pre => by
  rw [goOs, flGo, goOs_go o r]
  simp only [Bool.and_assoc]
def msgD : MsgV := ⟨⟨#[]⟩, ⟨#[]⟩, 0, false⟩
theorem w_iadrH {α β : Type} {r : Option β} {w : Nat} {enc : α → List AV} {l : List α} {d : α} {K : AV → Option β} (hw : ∀ x, (enc x).length = w) (h0 : 0 < w) (hl : 0 < l.length) (h : K (.rp (enc (l.headD d) ++ (l.tail.map enc).flatten)) = r) : pIadr w (rowsC enc l) (.sc (.int .i64 0)) (fun t => K t) = r := by
 refine w_iadr0 hw h0 hl fun x t e => ?_
 subst e
 exact h
theorem specOutF (n : Nat) (hn : 1048576 < n) (ty : Nat) (o : OutV) (b0 : wtOut o ≤ 1048576) : tree E0 (n + 10) ty 84 [.agg (encOut o)] = some (.sc (.bool (vOutOk o))) := by
 obtain ⟨⟨h1, h2⟩, h3, h4⟩ := fl_hyp o b0
 rw [tree_def, f84_eq, f84]
 simp only [PR_box]
 refine w_box (flOut _) fun i e hi => ?_
 have key := specFl_loop (n + 1) (by omega) ty o h1 h2 h3 h4 i o.fFl [] (n + 9) _ hi rfl (by omega)
 rw [goOs_go] at key
 exact key
theorem implOutF (n : Nat) (hn : 1048576 < n) (ty : Nat) (o : OutV) (b0 : wtOut o ≤ 1048576) : tree E0 (n + 10) ty 80 [.agg (encOut o)] = some (.sc (.bool (vOutOk o))) := by
 obtain ⟨⟨h1, h2⟩, h3, h4⟩ := fl_hyp o b0
 rw [tree_def, f80_eq, f80]
 simp only [PR_box, PR_fadr, PR_load, PR_len]
 refine w_box (flOut _) fun i e hi => ?_
 refine w_fadr ?_
 refine w_ld (c := rowsC encFlight o.fFl) hi (Nat.le_of_ble_eq_true rfl) rfl ?_
 refine w_len ?_
 have key := implFl_loop n hn ty o h1 h2 h3 h4 i o.fFl [] (n + 9) _ hi rfl (by omega)
 rw [goOs_go] at key
 exact key
theorem specF_OutOk (n : Nat) (hn : 1048576 < n) (o : OutV) (k0 : okOut o) (b0 : wtOut o ≤ 1048576) : tree E0 (n + 10) 4 84 [.agg (encOut o)] = some (.sc (.bool (vOutOk o))) := specOutF n hn _ o b0
theorem implF_OutOk (n : Nat) (hn : 1048576 < n) (o : OutV) (k0 : okOut o) (b0 : wtOut o ≤ 1048576) : tree E0 (n + 10) 4 80 [.agg (encOut o)] = some (.sc (.bool (vOutOk o))) := implOutF n hn _ o b0
end Go.Proofs.YtdameggfgnpehaaGreatDoor.Abs
set_option linter.unusedVariables false
set_option linter.unusedSimpArgs false
set_option maxRecDepth 100000
namespace Go.Proofs.YtdameggfgnpehaaGreatDoor.Abs
open Go
def vPush (q : List MsgV) (m : MsgV) : List MsgV := if (vQueueOk q && vMsgOk m) = true ∧ q.length < 6 then q ++ [m] else q
def vPushC (q : List MsgV) (m : MsgV) : Int := if (vQueueOk q && vMsgOk m) = true then (if q.length < 6 then 0 else if m.fQos == 0 then 1 else 2) else 2
theorem tup_own {ty : Nat} {H : Heap} {ts : List Nat} {raw cells : List AV} {ids : List Nat} (hts : E0.tp ty = some ts) (h : ownL (ownT ti0 E0.tp H 7) ts raw = some (cells, ids)) (hn : ids.Nodup) : ownTree ti0 E0.tp ty H (.tup raw) = some (.tup cells) := by
 rw [ownTree, ownT_tup, hts, Option.bind_some, h, Option.bind_some, Option.bind_some, if_pos hn]
theorem ownS_inst {α : Type} {H : Heap} {w tyS : Nat} {cty : List Nat} {enc : α → List AV} (hw : ∀ x, (enc x).length = w) (hty : ∃ i j, ti0 tyS = some i ∧ ti0 i.elem = some j ∧ j.size = w ∧ j.cty = cty) (hc : cty.length = w) (hok : ∀ x, okLW (okW ti0 E0.tp 6) cty (enc x)) (l : List α) :
  OwnS 6 (H ++ (instT ti0 E0.tp H.length tyS (rowsC enc l)).2) w cty (instT ti0 E0.tp H.length tyS (rowsC enc l)).1 l.length (l.map enc).flatten := by
 obtain ⟨i, j, h1, h2, rfl, rfl⟩ := hty
 have hi : instT ti0 E0.tp H.length tyS (rowsC enc l) = (.sl H.length 0 l.length j.size, ⟨(instL ti0 E0.tp (H.length + 1) (List.replicate l.length j.cty).flatten (l.map enc).flatten).1, true, true⟩ :: (instL ti0 E0.tp (H.length + 1) (List.replicate l.length j.cty).flatten (l.map enc).flatten).2) := by
  show instT ti0 E0.tp H.length tyS (.ro l.length (l.map enc).flatten) = _
  simp only [instT, h1, Option.bind_some, h2, Option.getD_some]
 rw [hi]
 simp only
 generalize hQ : instL ti0 E0.tp (H.length + 1) (List.replicate l.length j.cty).flatten (l.map enc).flatten = Q
 have lQ : Lies (H ++ ⟨Q.1, true, true⟩ :: Q.2) (H.length + 1) Q.2 := by
  have := Lies_end (H ++ [⟨Q.1, true, true⟩]) Q.2
  rw [List.length_append, List.length_singleton, List.append_assoc] at this
  exact this
 have ho : OwnC 6 (H ++ ⟨Q.1, true, true⟩ :: Q.2) (List.replicate l.length j.cty).flatten Q.1 (l.map enc).flatten (List.range' (H.length + 1) Q.2.length) := by
  have := own_instL (H := H ++ ⟨Q.1, true, true⟩ :: Q.2) (fun ty t N h h' _ => own_inst 6 ty t N h h') (List.replicate l.length j.cty).flatten (l.map enc).flatten (H.length + 1) (okLW_rows l fun x _ => hok x) (by rw [hQ]; exact lQ) (instL_live _ _ _)
  rw [hQ] at this
  exact this
 refine .inr ⟨H.length, Q.1, _, rfl, get_at _ _ _, by rw [← hQ, instL_len, rows_len hw], ho, ?_⟩
 rw [List.nodup_cons]
 refine ⟨fun hm => ?_, List.nodup_range'⟩
 rw [List.mem_range'_1] at hm
 omega
theorem own2 {H : Heap} {tyT : Nat} {k : Nat} {x : AV} {cells : List AV} {c : Int} (hts : E0.tp tyT = some [31, 3]) (h : OwnS 6 H 4 ctyMsg x k cells) : ownTree ti0 E0.tp tyT H (.tup [x, .sc (.int .i64 c)]) = some (.tup [.ro k cells, .sc (.int .i64 c)]) := by
 obtain ⟨ids, ho, hno⟩ := own_res (d := 6) (tyS := 31) tyMsgS h
 refine tup_own hts (ids := ids) ?_ hno
 simp only [ownL, ho, ownT_sc, Option.bind_some, List.append_nil]
theorem specF_Push (n : Nat) (hn : 1048576 < n) (x0 : List MsgV) (x1 : MsgV) (k0 : x0.length ≤ 9223372036854775807 ∧ ∀ z ∈ x0, okMsg z) (k1 : okMsg x1) (b0 : wtL wtMsg x0 ≤ 1048576) (b1 : wtMsg x1 ≤ 1048576) : tree E0 (n + 8) 143 129 [rowsC encMsg x0, .agg (encMsg x1)] = some (.tup [rowsC encMsg (vPush x0 x1), .sc (.int .i64 (vPushC x0 x1))]) := by
 obtain ⟨hlen, htop⟩ := queue_hyp x0 b0
 have hsm := (smwS smMsg smwMsg x0 b0).2
 have hs : ∀ x ∈ x0, x.fBody.size ≤ 1048576 := fun x hx => (hsm x hx).1
 have hm : x1.fBody.size ≤ 1048576 := (smwMsg x1 b1).1
 have ht : x1.fTopic.size ≤ 1048576 := by unfold wtMsg at b1; omega
 rw [tree_def, f129_eq, f129]
 simp only [PR_box, PR_un, PR_guard, PR_load, PR_pick, PR_cond, PR_len, PR_bin, PR_fadr, PR_fill, PR_newSl, PR_app]
 refine w_box (flMsg _) fun i e hi => ?_
 rw [PR_call (vs := [rowsC encMsg x0]) rfl (vcons (Vw_ro _ _ _) vnil) (l12CopyF (n + 4) (by omega) x0 hlen hs)]
 have hO := ownS_inst (H := [] ++ [⟨encMsg x1, true, true⟩]) lenMsg tyMsgS rfl (okWMsg 4) x0
 replace hi := blk_grow hi (instT ti0 E0.tp ([] ++ [⟨encMsg x1, true, true⟩] : Heap).length 31 (rowsC encMsg x0)).2
 generalize (instT ti0 E0.tp ([] ++ [⟨encMsg x1, true, true⟩] : Heap).length 31 (rowsC encMsg x0)).1 = y at hO ⊢
 generalize ([] ++ [⟨encMsg x1, true, true⟩] ++ (instT ti0 E0.tp ([] ++ [⟨encMsg x1, true, true⟩] : Heap).length 31 (rowsC encMsg x0)).2 : Heap) = G at hO hi ⊢
 refine lw_sc rfl (vcons (Vw_ro _ _ _) vnil) (specQueueF n hn _ x0 hlen htop) ?_
 refine w_not ?_
 cases hq : vQueueOk x0
 ·refine w_hF rfl ?_
  refine w_hF rfl ?_
  refine w_hF rfl ?_
  refine w_pT rfl ?_
  refine w_cT rfl ?_
  have e1 : vPush x0 x1 = x0 := by simp [vPush, hq]
  have e2 : vPushC x0 x1 = 2 := by simp [vPushC, hq]
  rw [e1, e2]
  exact own2 rfl hO
 ·refine w_hT rfl ?_
  refine lw_ld hi (lenMsg _) ?_
  refine w_hT rfl ?_
  refine lw_sc rfl (vcons (Vw_agg _ (flMsg _)) vnil) (specMsgF (n + 1) (by omega) _ x1 ht) ?_
  refine w_hT rfl ?_
  refine w_not ?_
  refine w_pF rfl ?_
  cases hmk : vMsgOk x1
  ·refine w_cT rfl ?_
   have e1 : vPush x0 x1 = x0 := by simp [vPush, hq, hmk]
   have e2 : vPushC x0 x1 = 2 := by simp [vPushC, hq, hmk]
   rw [e1, e2]
   exact own2 rfl hO
  ·refine w_cF rfl ?_
   refine w_len ?_
   refine w_bin (v := .sc (.bool ((x0.length : Int) == 6))) (fun k => rfl) ?_
   have hl6 : x0.length ≤ 6 := by
    unfold vQueueOk at hq
    simp at hq
    omega
   by_cases h6 : x0.length = 6
   ·refine w_cT (by simp [h6]) ?_
    refine w_fadr ?_
    refine w_ld (c := .sc (.int .i64 x1.fQos)) hi (Nat.le_of_ble_eq_true rfl) rfl ?_
    refine w_bin (v := .sc (.bool (x1.fQos == 0))) (fun k => rfl) ?_
    have e1 : vPush x0 x1 = x0 := by simp [vPush, h6]
    rw [e1]
    cases hz : (x1.fQos == 0)
    ·refine w_cF rfl ?_
     have e2 : vPushC x0 x1 = 2 := by simp [vPushC, h6, hq, hmk, hz]
     rw [e2]
     exact own2 rfl hO
    ·refine w_cT rfl ?_
     have e2 : vPushC x0 x1 = 1 := by simp [vPushC, h6, hq, hmk, hz]
     rw [e2]
     exact own2 rfl hO
   ·refine w_cF (by simp; omega) ?_
    refine lw_ld hi (lenMsg _) ?_
    have e1 : vPush x0 x1 = x0 ++ [x1] := by simp [vPush, hq, hmk]; omega
    have e2 : vPushC x0 x1 = 0 := by simp [vPushC, hq, hmk]; omega
    rw [e1, e2]
    have hst := fun K h => copy_step (β := AV) (n := n + 7) (X0 := []) (bytes := 56) (z := zzMsg) (K := K) (r := some (.tup [rowsC encMsg (x0 ++ [x1]), .sc (.int .i64 0)])) hO rfl (vcons (Vw_agg _ (flMsg x1)) vnil) (l12MsgF (n + 6) x1 hm) tyMsg (okWMsg 4 x1) (flMsg x1) (lenMsg x1) rfl (by omega) h
    simp only [List.append_nil] at hst
    refine hst _ fun x' H' hx' => ?_
    have := own2 (tyT := 143) (c := 0) rfl hx'
    rw [show rowsC encMsg (x0 ++ [x1]) = .ro (x0.length + 1) ((x0.map encMsg).flatten ++ encMsg x1) by
     show AV.ro _ _ = _
     simp]
    exact this
theorem implF_Push (n : Nat) (hn : 1048576 < n) (x0 : List MsgV) (x1 : MsgV) (k0 : x0.length ≤ 9223372036854775807 ∧ ∀ z ∈ x0, okMsg z) (k1 : okMsg x1) (b0 : wtL wtMsg x0 ≤ 1048576) (b1 : wtMsg x1 ≤ 1048576) : tree E0 (n + 9) 143 130 [rowsC encMsg x0, .agg (encMsg x1)] = some (.tup [rowsC encMsg (vPush x0 x1), .sc (.int .i64 (vPushC x0 x1))]) := by
 obtain ⟨hlen, htop⟩ := queue_hyp x0 b0
 have hsm := (smwS smMsg smwMsg x0 b0).2
 have hs : ∀ x ∈ x0, x.fBody.size ≤ 1048576 := fun x hx => (hsm x hx).1
 have hm : x1.fBody.size ≤ 1048576 := (smwMsg x1 b1).1
 have ht : x1.fTopic.size ≤ 1048576 := by unfold wtMsg at b1; omega
 rw [tree_def, f130_eq, f130]
 simp only [PR_box, PR_un, PR_guard, PR_load, PR_pick, PR_cond, PR_len, PR_bin, PR_fadr, PR_fill, PR_newSl, PR_app]
 refine w_box (flMsg _) fun i e hi => ?_
 rw [PR_call (vs := [rowsC encMsg x0]) rfl (vcons (Vw_ro _ _ _) vnil) (copyMsgsF (n + 5) (by omega) x0 hlen hs)]
 have hO := ownS_inst (H := [] ++ [⟨encMsg x1, true, true⟩]) lenMsg tyMsgS rfl (okWMsg 4) x0
 replace hi := blk_grow hi (instT ti0 E0.tp ([] ++ [⟨encMsg x1, true, true⟩] : Heap).length 31 (rowsC encMsg x0)).2
 generalize (instT ti0 E0.tp ([] ++ [⟨encMsg x1, true, true⟩] : Heap).length 31 (rowsC encMsg x0)).1 = y at hO ⊢
 generalize ([] ++ [⟨encMsg x1, true, true⟩] ++ (instT ti0 E0.tp ([] ++ [⟨encMsg x1, true, true⟩] : Heap).length 31 (rowsC encMsg x0)).2 : Heap) = G at hO hi ⊢
 refine lw_sc rfl (vcons (Vw_ro _ _ _) vnil) (implQueueF n hn _ x0 hlen htop) ?_
 refine w_not ?_
 cases hq : vQueueOk x0
 ·refine w_hF rfl ?_
  refine w_hF rfl ?_
  refine w_hF rfl ?_
  refine w_pT rfl ?_
  refine w_cT rfl ?_
  have e1 : vPush x0 x1 = x0 := by simp [vPush, hq]
  have e2 : vPushC x0 x1 = 2 := by simp [vPushC, hq]
  rw [e1, e2]
  exact own2 rfl hO
 ·refine w_hT rfl ?_
  refine lw_ld hi (lenMsg _) ?_
  refine w_hT rfl ?_
  refine lw_sc rfl (vcons (Vw_agg _ (flMsg _)) vnil) (implMsgF (n + 2) (by omega) _ x1 ht) ?_
  refine w_hT rfl ?_
  refine w_not ?_
  refine w_pF rfl ?_
  cases hmk : vMsgOk x1
  ·refine w_cT rfl ?_
   have e1 : vPush x0 x1 = x0 := by simp [vPush, hq, hmk]
   have e2 : vPushC x0 x1 = 2 := by simp [vPushC, hq, hmk]
   rw [e1, e2]
   exact own2 rfl hO
  ·refine w_cF rfl ?_
   refine w_len ?_
   refine w_bin (v := .sc (.bool (decide ((x0.length : Int) < 6)))) (fun k => rfl) ?_
   by_cases h6 : x0.length < 6
   ·refine w_cT (by simp; omega) ?_
    refine lw_ld hi (lenMsg _) ?_
    have e1 : vPush x0 x1 = x0 ++ [x1] := by simp [vPush, hq, hmk, h6]
    have e2 : vPushC x0 x1 = 0 := by simp [vPushC, hq, hmk, h6]
    rw [e1, e2]
    have hst := fun K h => copy_step (β := AV) (n := n + 8) (X0 := []) (bytes := 56) (z := zzMsg) (K := K) (r := some (.tup [rowsC encMsg (x0 ++ [x1]), .sc (.int .i64 0)])) hO rfl (vcons (Vw_agg _ (flMsg x1)) vnil) (copyMsgF (n + 6) (by omega) x1 hm) tyMsg (okWMsg 4 x1) (flMsg x1) (lenMsg x1) rfl (by omega) h
    simp only [List.append_nil] at hst
    refine hst _ fun x' H' hx' => ?_
    have := own2 (tyT := 143) (c := 0) rfl hx'
    rw [show rowsC encMsg (x0 ++ [x1]) = .ro (x0.length + 1) ((x0.map encMsg).flatten ++ encMsg x1) by
     show AV.ro _ _ = _
     simp]
    exact this
   ·refine w_cF (by simp; omega) ?_
    refine w_fadr ?_
    refine w_ld (c := .sc (.int .i64 x1.fQos)) hi (Nat.le_of_ble_eq_true rfl) rfl ?_
    refine w_bin (v := .sc (.bool (x1.fQos == 0))) (fun k => rfl) ?_
    have e1 : vPush x0 x1 = x0 := by simp [vPush, h6]
    rw [e1]
    cases hz : (x1.fQos == 0)
    ·refine w_cF rfl ?_
     have e2 : vPushC x0 x1 = 2 := by simp [vPushC, h6, hq, hmk, hz]
     rw [e2]
     exact own2 rfl hO
    ·refine w_cT rfl ?_
     have e2 : vPushC x0 x1 = 1 := by simp [vPushC, h6, hq, hmk, hz]
     rw [e2]
     exact own2 rfl hO
theorem msg_small (m : MsgV) (h : vMsgOk m = true) : wtMsg m ≤ 100 := by
 unfold vMsgOk vTopicOk vTextOk at h
 simp at h
 have e : wtMsg m = m.fTopic.size + (m.fBody.size + 0) := rfl
 omega
theorem queue_small : ∀ (q : List MsgV), q.all vMsgOk = true → wtL wtMsg q ≤ 101 * q.length
 | [], _ => Nat.zero_le _
 | m :: q, h => by
  rw [List.all_cons, Bool.and_eq_true] at h
  have h1 := msg_small m h.1
  have h2 := queue_small q h.2
  have e : wtL wtMsg (m :: q) = 1 + wtMsg m + wtL wtMsg q := rfl
  rw [List.length_cons]
  omega
theorem wt_push (q : List MsgV) (m : MsgV) : wtL wtMsg (q ++ [m]) = wtL wtMsg q + (1 + wtMsg m) := by
 induction q with
 | nil =>
  show 1 + wtMsg m + 0 = 0 + (1 + wtMsg m)
  omega
 | cons x q ih =>
  rw [List.cons_append]
  show 1 + wtMsg x + wtL wtMsg (q ++ [m]) = 1 + wtMsg x + wtL wtMsg q + (1 + wtMsg m)
  rw [ih]
  omega
theorem push_wt (x0 : List MsgV) (x1 : MsgV) (b0 : wtL wtMsg x0 ≤ 1048576) : wtL wtMsg (vPush x0 x1) ≤ wtL wtMsg x0 + 707 ∧ wtL wtMsg (vPush x0 x1) ≤ 1048576 := by
 unfold vPush
 split
 ·rename_i h
  obtain ⟨h, h6⟩ := h
  rw [Bool.and_eq_true] at h
  have h1 := msg_small x1 h.2
  have h3 : x0.all vMsgOk = true := by
   have := h.1
   unfold vQueueOk at this
   rw [Bool.and_eq_true] at this
   exact this.1
  have h2 := queue_small x0 h3
  rw [wt_push]
  omega
 ·omega
theorem resF_Push_0 (x0 : List MsgV) (x1 : MsgV) (b0 : wtL wtMsg x0 ≤ 1048576) (b1 : wtMsg x1 ≤ 1048576) : wtL wtMsg (vPush x0 x1) ≤ 1048576 ∧ ((vPush x0 x1).length ≤ 1048576 ∧ ∀ y ∈ vPush x0 x1, smMsg y) := ⟨(push_wt x0 x1 b0).2, smwS smMsg smwMsg _ (push_wt x0 x1 b0).2⟩
end Go.Proofs.YtdameggfgnpehaaGreatDoor.Abs
