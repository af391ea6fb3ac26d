/- What the laws' own functions write into slices and read of them again: whole lists. -/
import Derived.Test.YtfpmccedangjoaaMark
set_option linter.unusedVariables false
set_option linter.unusedSimpArgs false
namespace Go.Proofs.Ytfpmccedangjoaa.Abs
open Go

variable {β : Type} {n : Nat} {res : Option β}

theorem FdsM_len {n : Nat} : ∀ {off : Nat} {fds : List FD} {ts : List Nat}, FdsM n off fds ts → fds.length = ts.length
  | _, [], [], _ => rfl
  | _, _ :: _, _ :: _, h => by simp [FdsM_len h.2.2]
  | _, [], _ :: _, h => h.elim
  | _, _ :: _, [], h => h.elim

theorem len_sl (id off m w : Nat) (k : AV → Option β) : pLen (.sl id off m w) k = k (.sc (.int .i64 m)) := rfl
/-- A list's elements are written. -/
theorem loop_m {tS tI gT w len : Nat} {cty : List Nat} {fds : List FD} (hT : TxtOk n tS gT) (hf : FdsM n 0 fds cty) (hw : fds.length = w) (hlen : len ≤ 1048576) (L : Nat → AV → AV → AV → Heap → Option β) (kk : AV → Heap → Option β)
    (hL : ∀ m a k i H, L (m + 1) a k i H = pLen a fun t8 => pBin .lss i t8 fun t9 => pCond t9 (bodyM (PR n β) tS tI gT w a i fds k H fun k' H => pBin .add i (.sc (.int .i64 1)) fun i' => L m a k' i' H) (kk k H)) :
    ∀ (r i m : Nat) (P S : List AV) (TP : List Nat) (k : Int) (A C : Heap), P.length = i * w → TP.length = P.length → i + r = len → r < m → wfL (repF r (fds.map FD.f)) S → 0 ≤ k → k + cntL (repF r (fds.map FD.f)) S ≤ 4611686018427387904 →
      (∀ X, kk (.sc (.int .i64 (mkL (repF r (fds.map FD.f)) k S).2)) (A ++ (SB A.length (TP ++ (List.replicate r cty).flatten) (P ++ (mkL (repF r (fds.map FD.f)) k S).1) ++ (C ++ X))) = res) →
      L m (.sl A.length 0 len w) (.sc (.int .i64 k)) (.sc (.int .i64 i)) (A ++ (SB A.length (TP ++ (List.replicate r cty).flatten) (P ++ S) ++ C)) = res
  | 0, i, m + 1, P, S, TP, k, A, C, hP, hTP, hr, hm, hwf, h0, h1, h => by
    have hS : S = [] := by
      have := wfL_len hwf
      simp [repF] at this
      exact List.eq_nil_of_length_eq_zero this.symm
    subst hS
    obtain rfl : i = len := by omega
    rw [hL]
    rw [len_sl, lss_nat, cond_b, if_neg (by simp)]
    have := h []
    simp only [List.append_nil, mkL] at this ⊢
    exact this
  | r + 1, i, m + 1, P, S, TP, k, A, C, hP, hTP, hr, hm, hwf, h0, h1, h => by
    have hi : i < len := by omega
    have hml : (fds.map FD.f).length = w := by simp [hw]
    have hSl : S.length = (r + 1) * w := by
      have := wfL_len hwf
      rw [repF_len, hml] at this
      exact this.symm
    obtain ⟨R, S', rfl, hRl⟩ : ∃ R S', S = R ++ S' ∧ R.length = w := ⟨S.take w, S.drop w, (List.take_append_drop w S).symm, by rw [List.length_take, hSl, Nat.succ_mul]; omega⟩
    rw [repF_succ] at hwf h1 h
    have hl : (fds.map FD.f).length = R.length := by rw [hml, hRl]
    obtain ⟨hwR, hwS⟩ := (wfL_append hl).1 hwf
    rw [cntL_append _ _ _ _ hl] at h1
    rw [mkL_append _ _ _ _ _ hl] at h
    have hkc := mkL_cnt R (fds.map FD.f) k
    have hRl' := mkL_len R (fds.map FD.f) k
    have hcl : cty.length = w := by rw [← FdsM_len hf, hw]
    rw [List.replicate_succ, List.flatten_cons] at h ⊢
    rw [hL]
    rw [len_sl, lss_nat, cond_b, if_pos (by simpa using hi)]
    refine body_m (w := w) (tI := tI) hT hi fds 0 P R S' TP cty (List.replicate r cty).flatten k A C _ hf hTP (by rw [hP, Nat.add_zero]) hwR h0 (by omega) fun X => ?_
    rw [inc_nat _ _ (by omega)]
    have ih := loop_m hT hf hw hlen L kk hL r (i + 1) m (P ++ (mkL (fds.map FD.f) k R).1) S' (TP ++ cty) (mkL (fds.map FD.f) k R).2 A (C ++ X) (by rw [List.length_append, hP, hRl', hRl, Nat.succ_mul]) (by rw [List.length_append, List.length_append, hTP, hcl, hRl', hRl]) (by omega) (by omega) hwS (by omega) (by omega) (fun Y => by
      have := h (X ++ Y)
      simp only [List.append_assoc] at this ⊢
      exact this)
    simp only [List.append_assoc] at ih ⊢
    exact ih
/-- A function that writes into a list. -/
theorem mark_ok {tS tI gT w f tyS : Nat} {cty : List Nat} {fds : List FD} (hh : E0.hm f = true) (hx : E0.ext f = none) (hT : TxtOk n tS gT) (hf : FdsM n 0 fds cty) (hw : fds.length = w) (hty : ∃ i j, ti0 tyS = some i ∧ ti0 i.elem = some j ∧ j.size = w ∧ j.cty = cty) (hn : 1048576 < n)
    (L : (β : Type) → (AV → Heap → Option β) → Nat → AV → AV → AV → Heap → Option β)
    (hL : ∀ β kk m a k i H, L β kk (m + 1) a k i H = pLen a fun t8 => pBin .lss i t8 fun t9 => pCond t9 (bodyM (PR n β) tS tI gT w a i fds k H fun k' H => pBin .add i (.sc (.int .i64 1)) fun i' => L β kk m a k' i' H) (kk k H))
    (hF : ∀ β a b H kk, evalFn E0 (n + 1) β f [a, b] H kk = L β kk n a b (.sc (.int .i64 0)) H) : MarkOk (n + 1) f tyS (fds.map FD.f) := by
  obtain ⟨ti, tj, h1, h2, h3, h4⟩ := hty
  refine ⟨hh, hx, ⟨ti, tj, h1, h2⟩, fun len cells k hwf h0 hb => ?_⟩
  intro β A C K r h
  obtain ⟨hlen, hcl, hwl⟩ := (show len ≤ 1048576 ∧ cells.length = len * (fds.map FD.f).length ∧ wfL (repF len (fds.map FD.f)) cells from hwf)
  rw [hF, inst_SB h1 h2, h3, h4]
  have hmk : mkF (.sub (fds.map FD.f)) k (.ro len cells) = (.ro len (mkL (repF len (fds.map FD.f)) k cells).1, (mkL (repF len (fds.map FD.f)) k cells).2) := rfl
  rw [hmk] at h
  simp only [inst_SB h1 h2, h3, h4] at h
  exact loop_m (n := n) (cty := cty) hT hf hw hlen (L β K) K (hL β K) len 0 n [] cells [] k A C (by simp) rfl (by omega) (by omega) hwl h0 hb h

/-- One element's fields are read. -/
theorem body_h {tS tI gT w len i : Nat} {F : Heap → Option β} (hT : TxtOk n tS gT) (hi : i < len) (cells : List AV) (hw0 : i * w < cells.length) : ∀ (todo : List FD) (off : Nat) (Q R S : List AV) (k : Int) (H : Heap) (K : AV → Heap → Option β),
    FdsH n off todo → Q.length = i * w + off → wfL (todo.map FD.f) R → 0 ≤ k → k + cntL (todo.map FD.f) R ≤ 4611686018427387904 → cells = Q ++ ((mkL (todo.map FD.f) k R).1 ++ S) →
    (∀ X, K (.sc (.int .i64 (mkL (todo.map FD.f) k R).2)) (H ++ X) = res) →
    bodyH (PR n β) tS tI gT w (.ro len cells) (.sc (.int .i64 i)) F todo (.sc (.int .i64 k)) H K = res
  | [], off, Q, R, S, k, H, K, hf, hq, hw, h0, h1, hc, h => by
    cases R with
    | nil =>
      have := h []
      rw [List.append_nil] at this
      exact this
    | cons c R => exact absurd rfl hw.1
  | fd :: todo, off, Q, R, S, k, H, K, hf, hq, hw, h0, h1, hc, h => by
    cases R with
    | nil => exact absurd (show fd.f :: todo.map FD.f = [] from hw) (by simp)
    | cons c R =>
    obtain ⟨hpath, hsub, hrest⟩ := hf
    obtain ⟨hwc, hwR⟩ := wfL_cons.1 hw
    have hmk : mkL ((fd :: todo).map FD.f) k (c :: R) = ((mkF fd.f k c).1 :: (mkL (todo.map FD.f) (mkF fd.f k c).2 R).1, (mkL (todo.map FD.f) (mkF fd.f k c).2 R).2) := rfl
    rw [hmk] at h hc
    have hcells : cells = Q ++ (mkF fd.f k c).1 :: ((mkL (todo.map FD.f) (mkF fd.f k c).2 R).1 ++ S) := hc
    have hpl : ∀ K' : AV → Option β, (pIadr w (.ro len cells) (.sc (.int .i64 i)) fun t => fadrs (PR n β) fd.path t fun t => pLoad false 1 t H K') = K' (mkF fd.f k c).1 := fun K' => by
      rw [iadr_ro w _ _ i _ hi hw0, fadrs_rp, hpath, List.drop_drop, ← hq]
      conv => lhs; rw [hcells]
      rw [List.drop_append_of_le_length (Nat.le_refl _), List.drop_length, List.nil_append, ld1_rp]
    have go : ∀ (H' : Heap), (∀ X, K (.sc (.int .i64 (mkL (todo.map FD.f) (mkF fd.f k c).2 R).2)) (H' ++ X) = res) → 0 ≤ (mkF fd.f k c).2 → (mkF fd.f k c).2 + cntL (todo.map FD.f) R ≤ 4611686018427387904 →
        bodyH (PR n β) tS tI gT w (.ro len cells) (.sc (.int .i64 i)) F todo (.sc (.int .i64 (mkF fd.f k c).2)) H' K = res := by
      intro H' h' g0 g1
      exact body_h hT hi cells hw0 todo (off + 1) (Q ++ [(mkF fd.f k c).1]) R S (mkF fd.f k c).2 H' K hrest (by simp [hq]; omega) hwR g0 g1 (by rw [hcells]; simp) h'
    have hcnt := mkF_cnt c fd.f k
    have h1 : k + (cntF fd.f c + cntL (todo.map FD.f) R : Nat) ≤ 4611686018427387904 := h1
    obtain ⟨f, path, g⟩ := fd
    simp only at hcnt h1 hpl go h
    cases f with
    | skip =>
      have hc : ∃ v, c = .sc v := by
        cases c <;> first | exact ⟨_, rfl⟩ | exact hwc.elim
      obtain ⟨v, rfl⟩ := hc
      exact go H h h0 (by simpa [cntF, mkF] using h1)
    | sub fs =>
      have hc : ∃ m cells, c = .ro m cells := by
        cases c with
        | ro m cells => exact ⟨m, cells, rfl⟩
        | sc v => exact hwc.elim
        | _ => exact hwc.elim
      obtain ⟨m, cs, rfl⟩ := hc
      obtain ⟨hh, hhe⟩ := hsub
      show (pIadr w (.ro len cells) (.sc (.int .i64 i)) fun t => fadrs (PR n β) path t fun t => pLoad false 1 t H fun v => (PR n β).call tI (.fn g [] []) [v, .sc (.int .i64 k)] H fun k H => pBin .lss k (.sc (.int .i64 0)) fun b => pCond b (F H) (bodyH (PR n β) tS tI gT w _ _ F todo k H K)) = res
      rw [hpl, PR_call (vs := [(mkF (.sub fs) k (.ro m cs)).1, .sc (.int .i64 k)]) hh rfl (hhe tI m cs k hwc h0 (by omega)), instT_sc, List.append_nil]
      simp only
      rw [lss64, cond_b, if_neg (by simp; omega)]
      exact go H h (by omega) (by omega)
    | str =>
      have hc : ∃ s, c = .sc (.string s) := by
        cases c with
        | sc v => cases v <;> first | exact ⟨_, rfl⟩ | exact hwc.elim
        | _ => exact hwc.elim
      obtain ⟨v, rfl⟩ := hc
      have h1 : k + (1 + cntL (todo.map FD.f) R : Nat) ≤ 4611686018427387904 := h1
      have hpl' : ∀ K' : AV → Option β, (pIadr w (.ro len cells) (.sc (.int .i64 i)) fun t => fadrs (PR n β) path t fun t => pLoad false 1 t H K') = K' (.sc (.string (mTxt k))) := hpl
      show (pIadr w (.ro len cells) (.sc (.int .i64 i)) fun t => fadrs (PR n β) path t fun t => pLoad false 1 t H fun v => (PR n β).call tS (.fn gT [] []) [.sc (.int .i64 k)] H fun s H => pBin .neq v s fun b => pCond b (F H) (pBin .add (.sc (.int .i64 k)) (.sc (.int .i64 1)) fun k => bodyH (PR n β) tS tI gT w _ _ F todo k H K)) = res
      rw [hpl', call_txt hT h0 (by omega), neqS]
      simp only [beq_self_eq_true, Bool.not_true]
      rw [cond_b, if_neg (by simp), add1 _ _ h0 (by omega)]
      exact go H h (by show 0 ≤ k + 1; omega) (by show k + 1 + _ ≤ _; omega)
    | int =>
      have hc : ∃ z, c = .sc (.int .i64 z) := by
        cases c with
        | sc v => cases v with
          | int kd z => cases kd <;> first | exact ⟨_, rfl⟩ | exact hwc.elim
          | _ => exact hwc.elim
        | _ => exact hwc.elim
      obtain ⟨v, rfl⟩ := hc
      have h1 : k + (1 + cntL (todo.map FD.f) R : Nat) ≤ 4611686018427387904 := h1
      have hpl' : ∀ K' : AV → Option β, (pIadr w (.ro len cells) (.sc (.int .i64 i)) fun t => fadrs (PR n β) path t fun t => pLoad false 1 t H K') = K' (.sc (.int .i64 k)) := hpl
      show (pIadr w (.ro len cells) (.sc (.int .i64 i)) fun t => fadrs (PR n β) path t fun t => pLoad false 1 t H fun v => pBin .neq v (.sc (.int .i64 k)) fun b => pCond b (F H) (pBin .add (.sc (.int .i64 k)) (.sc (.int .i64 1)) fun k => bodyH (PR n β) tS tI gT w _ _ F todo k H K)) = res
      rw [hpl', neq64]
      simp only [bne_self_eq_false]
      rw [cond_b, if_neg (by simp), add1 _ _ h0 (by omega)]
      exact go H h (by show 0 ≤ k + 1; omega) (by show k + 1 + _ ≤ _; omega)
    | bool =>
      have hc : ∃ b, c = .sc (.bool b) := by
        cases c with
        | sc v => cases v <;> first | exact ⟨_, rfl⟩ | exact hwc.elim
        | _ => exact hwc.elim
      obtain ⟨v, rfl⟩ := hc
      have h1 : k + (1 + cntL (todo.map FD.f) R : Nat) ≤ 4611686018427387904 := h1
      have hpl' : ∀ K' : AV → Option β, (pIadr w (.ro len cells) (.sc (.int .i64 i)) fun t => fadrs (PR n β) path t fun t => pLoad false 1 t H K') = K' (.sc (.bool (k.tmod 3 == 0))) := hpl
      show (pIadr w (.ro len cells) (.sc (.int .i64 i)) fun t => fadrs (PR n β) path t fun t => pLoad false 1 t H fun v => pBinB .neq v (.sc (.bool (k.tmod 3 == 0))) fun b => pCond b (F H) (pBin .add (.sc (.int .i64 k)) (.sc (.int .i64 1)) fun k => bodyH (PR n β) tS tI gT w _ _ F todo k H K)) = res
      rw [hpl', neqB]
      simp only [beq_self_eq_true, Bool.not_true]
      rw [cond_b, if_neg (by simp), add1 _ _ h0 (by omega)]
      exact go H h (by show 0 ≤ k + 1; omega) (by show k + 1 + _ ≤ _; omega)
    | byt =>
      have hc : ∃ z, c = .sc (.int .u8 z) := by
        cases c with
        | sc v => cases v with
          | int kd z => cases kd <;> first | exact ⟨_, rfl⟩ | exact hwc.elim
          | _ => exact hwc.elim
        | _ => exact hwc.elim
      obtain ⟨v, rfl⟩ := hc
      have h1 : k + (1 + cntL (todo.map FD.f) R : Nat) ≤ 4611686018427387904 := h1
      have hpl' : ∀ K' : AV → Option β, (pIadr w (.ro len cells) (.sc (.int .i64 i)) fun t => fadrs (PR n β) path t fun t => pLoad false 1 t H K') = K' (.sc (.int .u8 (IntKind.u8.wrap k))) := hpl
      show (pIadr w (.ro len cells) (.sc (.int .i64 i)) fun t => fadrs (PR n β) path t fun t => pLoad false 1 t H fun v => pBin .neq v (.sc (.int .u8 (IntKind.u8.wrap k))) fun b => pCond b (F H) (pBin .add (.sc (.int .i64 k)) (.sc (.int .i64 1)) fun k => bodyH (PR n β) tS tI gT w _ _ F todo k H K)) = res
      rw [hpl']
      show pCond (.sc (.bool (IntKind.u8.wrap k != IntKind.u8.wrap k))) _ _ = res
      simp only [bne_self_eq_false]
      rw [cond_b, if_neg (by simp), add1 _ _ h0 (by omega)]
      exact go H h (by show 0 ≤ k + 1; omega) (by show k + 1 + _ ≤ _; omega)

/-- A list's elements are read. -/
theorem loop_h {tS tI gT w len : Nat} {fds : List FD} (hT : TxtOk n tS gT) (hf : FdsH n 0 fds) (hw : fds.length = w) (hw0 : 0 < w) (hlen : len ≤ 1048576) (cells : List AV) (L : Nat → AV → AV → AV → Heap → Option β) (kk : AV → Heap → Option β)
    (hL : ∀ m a k i H, L (m + 1) a k i H = pLen a fun t8 => pBin .lss i t8 fun t9 => pCond t9 (bodyH (PR n β) tS tI gT w a i (fun H => kk (.sc (.int .i64 (-1))) H) fds k H fun k' H => pBin .add i (.sc (.int .i64 1)) fun i' => L m a k' i' H) (kk k H)) :
    ∀ (r i m : Nat) (P S : List AV) (k : Int) (H : Heap), P.length = i * w → i + r = len → r < m → wfL (repF r (fds.map FD.f)) S → 0 ≤ k → k + cntL (repF r (fds.map FD.f)) S ≤ 4611686018427387904 → cells = P ++ (mkL (repF r (fds.map FD.f)) k S).1 →
      (∀ X, kk (.sc (.int .i64 (mkL (repF r (fds.map FD.f)) k S).2)) (H ++ X) = res) →
      L m (.ro len cells) (.sc (.int .i64 k)) (.sc (.int .i64 i)) H = res
  | 0, i, m + 1, P, S, k, H, hP, hr, hm, hwf, h0, h1, hc, h => by
    have hS : S = [] := by
      have := wfL_len hwf
      simp [repF] at this
      exact List.eq_nil_of_length_eq_zero this.symm
    subst hS
    obtain rfl : i = len := by omega
    rw [hL, len_ro, lss_nat, cond_b, if_neg (by simp)]
    have := h []
    simp only [List.append_nil, mkL] at this ⊢
    exact this
  | r + 1, i, m + 1, P, S, k, H, hP, hr, hm, hwf, h0, h1, hc, h => by
    have hi : i < len := by omega
    have hml : (fds.map FD.f).length = w := by simp [hw]
    have hSl : S.length = (r + 1) * w := by
      have := wfL_len hwf
      rw [repF_len, hml] at this
      exact this.symm
    obtain ⟨R, S', rfl, hRl⟩ : ∃ R S', S = R ++ S' ∧ R.length = w := ⟨S.take w, S.drop w, (List.take_append_drop w S).symm, by rw [List.length_take, hSl, Nat.succ_mul]; omega⟩
    rw [repF_succ] at hwf h1 h hc
    have hl : (fds.map FD.f).length = R.length := by rw [hml, hRl]
    obtain ⟨hwR, hwS⟩ := (wfL_append hl).1 hwf
    rw [cntL_append _ _ _ _ hl] at h1
    rw [mkL_append _ _ _ _ _ hl] at h hc
    have hkc := mkL_cnt R (fds.map FD.f) k
    have hRl' := mkL_len R (fds.map FD.f) k
    have hcl : i * w < cells.length := by
      rw [hc, List.length_append, List.length_append, hRl', hRl, hP]
      omega
    rw [hL, len_ro, lss_nat, cond_b, if_pos (by simpa using hi)]
    refine body_h (w := w) (tI := tI) hT hi cells hcl fds 0 P R (mkL (repF r (fds.map FD.f)) (mkL (fds.map FD.f) k R).2 S').1 k H _ hf (by rw [hP, Nat.add_zero]) hwR h0 (by omega) hc fun X => ?_
    rw [inc_nat _ _ (by omega)]
    exact loop_h hT hf hw hw0 hlen cells L kk hL r (i + 1) m (P ++ (mkL (fds.map FD.f) k R).1) S' (mkL (fds.map FD.f) k R).2 (H ++ X) (by rw [List.length_append, hP, hRl', hRl, Nat.succ_mul]) (by omega) (by omega) hwS (by omega) (by omega) (by rw [hc, List.append_assoc]) (fun Y => by
      have := h (X ++ Y)
      rw [List.append_assoc]
      exact this)
/-- A function that reads what was written into a list. -/
theorem held_ok {tS tI gT w f : Nat} {fds : List FD} (hh : plainF f = false) (hT : TxtOk n tS gT) (hf : FdsH n 0 fds) (hw : fds.length = w) (hw0 : 0 < w) (hn : 1048576 < n)
    (L : (AV → Heap → Option AV) → Nat → AV → AV → AV → Heap → Option AV)
    (hL : ∀ kk m a k i H, L kk (m + 1) a k i H = pLen a fun t8 => pBin .lss i t8 fun t9 => pCond t9 (bodyH (PR n AV) tS tI gT w a i (fun H => kk (.sc (.int .i64 (-1))) H) fds k H fun k' H => pBin .add i (.sc (.int .i64 1)) fun i' => L kk m a k' i' H) (kk k H))
    (hF : ∀ a b H kk, evalFn E0 (n + 1) AV f [a, b] H kk = L kk n a b (.sc (.int .i64 0)) H) : HeldOk (n + 1) f (fds.map FD.f) := by
  refine ⟨hh, fun ty len cells k hwf h0 hb => ?_⟩
  obtain ⟨hlen, hcl, hwl⟩ := (show len ≤ 1048576 ∧ cells.length = len * (fds.map FD.f).length ∧ wfL (repF len (fds.map FD.f)) cells from hwf)
  rw [tree_def, hF]
  exact loop_h (n := n) hT hf hw hw0 hlen (mkL (repF len (fds.map FD.f)) k cells).1 (L fun x H => ownTree ti0 E0.tp ty H x) (fun x H => ownTree ti0 E0.tp ty H x) (hL _) len 0 n [] cells k [] (by simp) (by omega) (by omega) hwl h0 hb rfl (fun X => rfl)

end Go.Proofs.Ytfpmccedangjoaa.Abs
