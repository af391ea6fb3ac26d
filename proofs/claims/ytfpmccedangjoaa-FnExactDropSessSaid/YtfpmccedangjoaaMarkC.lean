/- What the laws' own functions write into structures, and read of them again; the text for a number. -/
import Derived.Test.YtfpmccedangjoaaMarkB
set_option linter.unusedVariables false
set_option linter.unusedSimpArgs false
namespace Go.Proofs.Ytfpmccedangjoaa.Abs
open Go

section txt
theorem txt_fill (v : AV) (h : cellsA v = some [v]) : fillA [(.sc (.int .u8 0))] [(0, 1, v)] = some [v] := by
  simp [fillA, h, splice]
theorem txt_bytes (H : Heap) (b : UInt8) : content (H ++ [⟨[.sc (.int .u8 b.toNat)], true, true⟩]) 1 (.sl H.length 0 1 1) = some [.sc (.int .u8 b.toNat)] := by
  simp only [content, if_true, rdCells, get_at H _ []]
  rfl
theorem digs_pos {k : Nat} (h : ¬ k = 0) (out : ByteArray) : digs k out = digs (k / 10) (⟨#[UInt8.ofNat (48 + k % 10)]⟩ ++ out) := by
  rw [digs, dif_neg h]
/-- The loop of markText. -/
theorem txt_loop {n ty : Nat} (L : Nat → AV → AV → Heap → Option AV)
    (hL : ∀ m k s H, L (m + 1) k s H = pBin .gtr k (.sc (.int .i64 0)) fun t7 => pCond t7 (pBin .rem k (.sc (.int .i64 10)) fun t9 => pBin .add (.sc (.int .i64 48)) t9 fun t10 => pCvI .u8 t10 fun t11 =>
      (fillA [(.sc (.int .u8 0))] [(0, 1, t11)]).bind fun ct12 => pNewSl 1 1 ct12 true H fun t12 H => pCvBS t12 H fun t13 => pBin .add t13 s fun t15 => pBin .quo k (.sc (.int .i64 10)) fun t17 => L m t17 t15 H)
      (pBin .add (.sc (.string ⟨#[109]⟩)) s fun t19 => ownTree ti0 E0.tp ty H t19)) :
    ∀ (b m k : Nat) (out : ByteArray) (H : Heap), k ≤ 4611686018427387904 → k < 10 ^ b → b < m → out.size + b ≤ 1000 → L m (.sc (.int .i64 k)) (.sc (.string out)) H = some (.sc (.string (⟨#[109]⟩ ++ digs k out)))
  | b, 0, k, out, H, hk0, h1, h2, h3 => by omega
  | b, m + 1, k, out, H, hk0, h1, h2, h3 => by
    rw [hL, gtr64, cond_b]
    by_cases hk : k = 0
    · subst hk
      rw [if_neg (by simp)]
      have hs : (⟨#[109]⟩ : ByteArray).size + out.size ≤ 9223372036854775807 := by
        show 1 + out.size ≤ _
        omega
      show (binS .add ⟨#[109]⟩ out).bind _ = _
      simp only [binS, if_pos hs, Option.bind_some]
      rw [digs, dif_pos rfl]
      rfl
    · rw [if_pos (by simp; omega)]
      have e9 : ∀ K : AV → Option AV, pBin .rem (.sc (.int .i64 (k : Int))) (.sc (.int .i64 10)) K = K (.sc (.int .i64 ((k % 10 : Nat) : Int))) := by
        intro K
        show K (.sc (.int .i64 ((k : Int).tmod 10))) = _
        rw [show ((k : Int).tmod 10) = ((k % 10 : Nat) : Int) from by
          rw [Int.tmod_eq_emod_of_nonneg (by omega)]; simp]
      have e10 : ∀ K : AV → Option AV, pBin .add (.sc (.int .i64 48)) (.sc (.int .i64 ((k % 10 : Nat) : Int))) K = K (.sc (.int .i64 ((48 + k % 10 : Nat) : Int))) := by
        intro K
        show K (.sc (.int .i64 (IntKind.i64.wrap (48 + ((k % 10 : Nat) : Int))))) = _
        rw [wrap64 _ (by omega) (by omega)]
        rfl
      have e11 : ∀ K : AV → Option AV, pCvI .u8 (.sc (.int .i64 ((48 + k % 10 : Nat) : Int))) K = K (.sc (.int .u8 ((UInt8.ofNat (48 + k % 10)).toNat : Int))) := by
        intro K
        show K (.sc (.int .u8 (IntKind.u8.wrap ((48 + k % 10 : Nat) : Int)))) = _
        have : (UInt8.ofNat (48 + k % 10)).toNat = 48 + k % 10 := by
          rw [UInt8.toNat_ofNat']
          omega
        rw [this]
        have hw : IntKind.u8.wrap ((48 + k % 10 : Nat) : Int) = ((48 + k % 10 : Nat) : Int) := by
          have h10 : k % 10 < 10 := Nat.mod_lt _ (by decide)
          unfold IntKind.wrap
          simp [IntKind.bits, IntKind.signed]
          omega
        rw [hw]
      have e17 : ∀ K : AV → Option AV, pBin .quo (.sc (.int .i64 (k : Int))) (.sc (.int .i64 10)) K = K (.sc (.int .i64 ((k / 10 : Nat) : Int))) := by
        intro K
        show K (.sc (.int .i64 (IntKind.i64.wrap ((k : Int).tdiv 10)))) = _
        rw [Int.tdiv_eq_ediv_of_nonneg (by omega), wrap64 _ (by omega) (by omega)]
        rfl
      rw [e9, e10, e11, txt_fill _ rfl]
      have hb : ((UInt8.ofNat (48 + k % 10)).toNat : Int).toNat = (UInt8.ofNat (48 + k % 10)).toNat := Int.toNat_natCast _
      have hbb : ([.sc (.int .u8 ((UInt8.ofNat (48 + k % 10)).toNat : Int))] : List AV).mapM byteOf = some [UInt8.ofNat (48 + k % 10)] := byteOf_bytes [UInt8.ofNat (48 + k % 10)]
      simp only [Option.bind_some, pNewSl, pCvBS, txt_bytes, hbb]
      have hs : (⟨#[UInt8.ofNat (48 + k % 10)]⟩ : ByteArray).size + out.size ≤ 9223372036854775807 := by
        show 1 + out.size ≤ _
        omega
      have e15 : ∀ K : AV → Option AV, pBin .add (.sc (.string ⟨[UInt8.ofNat (48 + k % 10)].toArray⟩)) (.sc (.string out)) K = K (.sc (.string (⟨#[UInt8.ofNat (48 + k % 10)]⟩ ++ out))) := by
        intro K
        show (binS .add ⟨#[UInt8.ofNat (48 + k % 10)]⟩ out).bind _ = _
        simp only [binS, if_pos hs, Option.bind_some]
      rw [e15, e17]
      cases b with
      | zero => simp at h1; omega
      | succ b =>
        have hk10 : k / 10 < 10 ^ b := by
          rw [Nat.pow_succ] at h1
          omega
        have hsz : (⟨#[UInt8.ofNat (48 + k % 10)]⟩ ++ out : ByteArray).size = 1 + out.size := by
          rw [ByteArray.size_append]
          rfl
        rw [txt_loop (n := n) (ty := ty) L hL b m (k / 10) _ _ (by omega) hk10 (by omega) (by rw [hsz]; omega)]
        rw [digs_pos hk out]
end txt

/-- markText. -/
theorem txt_ok {n tS f : Nat} (hh : plainF f = false) (hn : 1048576 < n) (L : (AV → Heap → Option AV) → Nat → AV → AV → Heap → Option AV)
    (hL : ∀ kk m k s H, L kk (m + 1) k s H = pBin .gtr k (.sc (.int .i64 0)) fun t7 => pCond t7 (pBin .rem k (.sc (.int .i64 10)) fun t9 => pBin .add (.sc (.int .i64 48)) t9 fun t10 => pCvI .u8 t10 fun t11 =>
      (fillA [(.sc (.int .u8 0))] [(0, 1, t11)]).bind fun ct12 => pNewSl 1 1 ct12 true H fun t12 H => pCvBS t12 H fun t13 => pBin .add t13 s fun t15 => pBin .quo k (.sc (.int .i64 10)) fun t17 => L kk m t17 t15 H)
      (pBin .add (.sc (.string ⟨#[109]⟩)) s fun t19 => kk t19 H))
    (hF : ∀ a H kk, evalFn E0 (n + 1) AV f [a] H kk = pBin .leq a (.sc (.int .i64 0)) fun t5 => pCond t5 (kk (.sc (.string ⟨#[109, 48]⟩)) H) (L kk n a (.sc (.string ⟨#[]⟩)) H)) : TxtOk (n + 1) tS f := by
  refine ⟨hh, fun k h0 h1 => ?_⟩
  rw [tree_def, hF, leq64, cond_b]
  by_cases hk : k ≤ 0
  · rw [if_pos (by simpa using hk), own_v, mTxt, if_pos hk]
    rfl
  · rw [if_neg (by simpa using hk)]
    obtain ⟨m, rfl⟩ : ∃ m : Nat, k = m := ⟨k.toNat, by omega⟩
    have := txt_loop (n := n) (ty := tS) (L fun x H => ownTree ti0 E0.tp tS H x) (hL _) 19 n m ⟨#[]⟩ [] (by omega) (by omega) (by omega) (by decide)
    rw [this, mTxt, if_neg hk]
    rfl
/-! A structure, by its value. -/
inductive FV where
  | skip
  | sub (fs : List MF) (path : List Nat) (g : FuncId)
  | agg (l : List MF) (path : List Nat) (w : Nat) (g : FuncId)
def flatV : List FV → List MF
  | [] => []
  | .skip :: r => .skip :: flatV r
  | .sub fs _ _ :: r => .sub fs :: flatV r
  | .agg l _ _ _ :: r => l ++ flatV r

/-- A function that writes into what a structure leads to. -/
def MarkV (n g : Nat) (cty : List Nat) (fs : List MF) : Prop := E0.hm g = true ∧ E0.ext g = none ∧ ∀ (cs : List AV) (k : Int) (β : Type) (A C : Heap) (K : AV → Heap → Option β) (r : Option β), wfL fs cs → 0 ≤ k → k + cntL fs cs ≤ 4611686018427387904 →
  (∀ X, K (.sc (.int .i64 (mkL fs k cs).2)) (A ++ ((instL ti0 E0.tp A.length cty (mkL fs k cs).1).2 ++ (C ++ X))) = r) → evalFn E0 n β g [.agg (instL ti0 E0.tp A.length cty cs).1, .sc (.int .i64 k)] (A ++ ((instL ti0 E0.tp A.length cty cs).2 ++ C)) K = r
def HeldV (n g : Nat) (fs : List MF) : Prop := plainF g = false ∧ ∀ (ty : Nat) (cs : List AV) (k : Int), wfL fs cs → 0 ≤ k → k + cntL fs cs ≤ 4611686018427387904 → tree E0 n ty g [.agg (mkL fs k cs).1, .sc (.int .i64 k)] = some (.sc (.int .i64 (mkL fs k cs).2))
/-- Nothing of a structure's own cells is written. -/
def isV : MF → Bool
  | .skip => true
  | .sub _ => true
  | _ => false

def FvM (n : Nat) : Nat → List FV → List Nat → Prop
  | _, [], [] => True
  | off, .skip :: r, _ :: ts => FvM n (off + 1) r ts
  | off, .sub fs path g :: r, t :: ts => path.sum = off ∧ MarkOk n g t fs ∧ FvM n (off + 1) r ts
  | off, .agg l path w g :: r, ts => path.sum = off ∧ l.length = w ∧ 0 < w ∧ l.all isV = true ∧ MarkV n g (ts.take w) l ∧ w ≤ ts.length ∧ FvM n (off + w) r (ts.drop w)
  | _, _, _ => False
def FvH (n : Nat) : Nat → List FV → Prop
  | _, [] => True
  | off, .skip :: r => FvH n (off + 1) r
  | off, .sub fs path g :: r => path.sum = off ∧ HeldOk n g fs ∧ FvH n (off + 1) r
  | off, .agg l path w g :: r => path.sum = off ∧ l.length = w ∧ 0 < w ∧ HeldV n g l ∧ FvH n (off + w) r

section fns
variable {β : Type}
def bodyV (p : Pr β) (tI : Nat) (x : AV) : List FV → AV → Heap → (AV → Heap → Option β) → Option β
  | [], k, H, K => K k H
  | .skip :: r, k, H, K => bodyV p tI x r k H K
  | .sub _ path g :: r, k, H, K => fadrs p path x fun t => p.load false 1 t H fun v => p.call tI (.fn g [] []) [v, k] H fun k H => bodyV p tI x r k H K
  | .agg _ path w g :: r, k, H, K => fadrs p path x fun t => p.load true w t H fun v => p.call tI (.fn g [] []) [v, k] H fun k H => bodyV p tI x r k H K
def bodyHV (p : Pr β) (tI : Nat) (x : AV) (F : Heap → Option β) : List FV → AV → Heap → (AV → Heap → Option β) → Option β
  | [], k, H, K => K k H
  | .skip :: r, k, H, K => bodyHV p tI x F r k H K
  | .sub _ path g :: r, k, H, K => fadrs p path x fun t => p.load false 1 t H fun v => p.call tI (.fn g [] []) [v, k] H fun k H => p.bin .lss k (.sc (.int .i64 0)) fun b => p.cond b (F H) (bodyHV p tI x F r k H K)
  | .agg _ path w g :: r, k, H, K => fadrs p path x fun t => p.load true w t H fun v => p.call tI (.fn g [] []) [v, k] H fun k H => p.bin .lss k (.sc (.int .i64 0)) fun b => p.cond b (F H) (bodyHV p tI x F r k H K)

variable {n : Nat} {res : Option β}

theorem mk_ro_same {t g : Nat} {n : Nat} {fs : List MF} (h : MarkOk n g t fs) (k : Int) (m : Nat) (cells : List AV) (M : Nat) : (instT ti0 E0.tp M t (mkF (.sub fs) k (.ro m cells)).1).1 = (instT ti0 E0.tp M t (.ro m cells)).1 := by
  obtain ⟨_, _, ⟨j1, j2, hj1, hj2⟩, _⟩ := h
  rw [inst_SB hj1 hj2]
  show (instT ti0 E0.tp M t (.ro m _)).1 = _
  rw [inst_SB hj1 hj2]
/-- Writing into what cells lead to leaves the cells. -/
theorem mkL_same {ti : Nat → Option TI} {tp : Nat → Option (List Nat)} : ∀ (cs : List AV) (fs : List MF) (k : Int) (N : Nat) (ts : List Nat), fs.all isV = true → wfL fs cs → (instL ti tp N ts (mkL fs k cs).1).1 = (instL ti tp N ts cs).1
  | [], fs, k, N, ts, _, _ => by simp [mkL]
  | c :: cs, [], k, N, ts, _, hw => absurd rfl hw.1
  | c :: cs, f :: fs, k, N, ts, hv, hw => by
    obtain ⟨h1, h2⟩ := wfL_cons.1 hw
    rw [List.all_cons, Bool.and_eq_true] at hv
    have ih := mkL_same (ti := ti) (tp := tp) cs fs (mkF f k c).2 (N + nbT c) ts.tail hv.2 h2
    have hn := mkF_nb c f k
    have e : (instT ti tp N (ts.headD 0) (mkF f k c).1).1 = (instT ti tp N (ts.headD 0) c).1 := by
      cases c with
      | sc v => cases f <;> first | rfl | (exfalso; simpa [isV] using hv.1)
      | ro m cells => cases f <;> first | rfl | exact h1.elim
      | _ => exact h1.elim
    show (instT ti tp N (ts.headD 0) (mkF f k c).1).1 :: (instL ti tp (N + (instT ti tp N (ts.headD 0) (mkF f k c).1).2.length) ts.tail (mkL fs (mkF f k c).2 cs).1).1 = _ :: (instL ti tp (N + (instT ti tp N (ts.headD 0) c).2.length) ts.tail cs).1
    rw [inst_nb, inst_nb, e, hn, ih]

/-- What a structure's cells lead to is written, field by field. -/
theorem body_v {tI idx : Nat} {ys : List AV} : ∀ (todo : List FV) (off : Nat) (Q R : List AV) (TP tR : List Nat) (k : Int) (A D : Heap) (K : AV → Heap → Option β),
    FvM n off todo tR → TP.length = Q.length → Q.length = off → wfL (flatV todo) R → 0 ≤ k → k + cntL (flatV todo) R ≤ 4611686018427387904 →
    (instL ti0 E0.tp A.length (TP ++ tR) (Q ++ R)).1 = ys → D[idx]? = some ⟨ys, true, true⟩ →
    (∀ X, K (.sc (.int .i64 (mkL (flatV todo) k R).2)) (A ++ ((instL ti0 E0.tp A.length (TP ++ tR) (Q ++ (mkL (flatV todo) k R).1)).2 ++ (D ++ X))) = res) →
    bodyV (PR n β) tI (.ptr (A.length + nbL (Q ++ R) + idx) 0) todo (.sc (.int .i64 k)) (A ++ ((instL ti0 E0.tp A.length (TP ++ tR) (Q ++ R)).2 ++ D)) K = res
  | [], off, Q, R, TP, tR, k, A, D, K, hf, hT, hq, hw, h0, h1, hy, hD, h => by
    cases R with
    | nil =>
      have := h []
      rw [List.append_nil D] at this
      exact this
    | cons c R => exact absurd rfl hw.1
  | .skip :: todo, off, Q, R, TP, tR, k, A, D, K, hf, hT, hq, hw, h0, h1, hy, hD, h => by
    cases R with
    | nil => exact absurd (show MF.skip :: flatV todo = [] from hw) (by simp)
    | cons c R =>
    cases tR with
    | nil => exact hf.elim
    | cons t tR =>
    obtain ⟨hwc, hwR⟩ := wfL_cons.1 (show wfL (MF.skip :: flatV todo) (c :: R) from hw)
    obtain ⟨v, rfl⟩ : ∃ v, c = .sc v := by
      cases c <;> first | exact ⟨_, rfl⟩ | exact hwc.elim
    have e1 : Q ++ .sc v :: R = (Q ++ [.sc v]) ++ R := by simp
    have e2 : TP ++ t :: tR = (TP ++ [t]) ++ tR := by simp
    have h1 : k + (0 + cntL (flatV todo) R : Nat) ≤ 4611686018427387904 := h1
    rw [e1, e2] at hy ⊢
    refine body_v todo (off + 1) (Q ++ [.sc v]) R (TP ++ [t]) tR k A D K hf (by simp [hT]) (by simp [hq]) hwR h0 (by omega) hy hD fun X => ?_
    have := h X
    rw [e2] at this
    simp only [List.append_assoc] at this ⊢
    exact this
  | .sub fs path g :: todo, off, Q, R, TP, tR, k, A, D, K, hf, hT, hq, hw, h0, h1, hy, hD, h => by
    cases R with
    | nil => exact absurd (show MF.sub fs :: flatV todo = [] from hw) (by simp)
    | cons c R =>
    cases tR with
    | nil => exact hf.elim
    | cons t tR =>
    obtain ⟨hpath, hmk, hrest⟩ := hf
    obtain ⟨hwc, hwR⟩ := wfL_cons.1 (show wfL (MF.sub fs :: flatV todo) (c :: R) from hw)
    obtain ⟨m, cells, rfl⟩ : ∃ m cells, c = .ro m cells := by
      cases c with
      | ro m cells => exact ⟨m, cells, rfl⟩
      | sc v => exact hwc.elim
      | _ => exact hwc.elim
    have h1 : k + (cntF (.sub fs) (.ro m cells) + cntL (flatV todo) R : Nat) ≤ 4611686018427387904 := h1
    have hk' := mkF_cnt (.ro m cells) (.sub fs) k
    have hn' := mkF_nb (.ro m cells) (.sub fs) k
    have hs' := mk_ro_same hmk k m cells
    have hmk2 := hmk.2.2.2 m cells k hwc h0 (by omega)
    have hl : (instL ti0 E0.tp A.length TP Q).1.length = Q.length := instL_len _ _ _
    have hsplit := fun (x : AV) => inst_mid (ti := ti0) (tp := E0.tp) TP tR t Q R x A.length hT
    rw [hsplit] at hy
    have hys : ys.drop off = (instT ti0 E0.tp (A.length + nbL Q) t (.ro m cells)).1 :: (instL ti0 E0.tp (A.length + nbL Q + nbT (.ro m cells)) tR R).1 := by
      rw [← hy, ← hq, ← hl, List.drop_append_of_le_length (Nat.le_refl _), List.drop_length, List.nil_append]
    have hlen : (instL ti0 E0.tp A.length (TP ++ t :: tR) (Q ++ .ro m cells :: R)).2.length = nbL (Q ++ .ro m cells :: R) := instL_nb _ _ _
    show (fadrs (PR n β) path (.ptr (A.length + nbL (Q ++ .ro m cells :: R) + idx) 0) fun t => pLoad false 1 t _ fun v => (PR n β).call tI (.fn g [] []) [v, .sc (.int .i64 k)] _ fun k H => bodyV (PR n β) tI _ todo k H K) = res
    rw [fadrs_ptr, hpath, Nat.zero_add]
    have hget : (A ++ ((instL ti0 E0.tp A.length (TP ++ t :: tR) (Q ++ .ro m cells :: R)).2 ++ D))[A.length + nbL (Q ++ .ro m cells :: R) + idx]? = some ⟨ys, true, true⟩ := by
      rw [List.getElem?_append_right (by omega), List.getElem?_append_right (by omega), hlen]
      rw [show A.length + nbL (Q ++ .ro m cells :: R) + idx - A.length - nbL (Q ++ .ro m cells :: R) = idx by omega]
      exact hD
    have hld : rdCells (A ++ ((instL ti0 E0.tp A.length (TP ++ t :: tR) (Q ++ .ro m cells :: R)).2 ++ D)) (A.length + nbL (Q ++ .ro m cells :: R) + idx) off 1 = some [(instT ti0 E0.tp (A.length + nbL Q) t (.ro m cells)).1] := by
      have hle : off + 1 ≤ ys.length := by
        have := congrArg List.length hys
        rw [List.length_drop, List.length_cons] at this
        omega
      simp only [rdCells, hget, if_true, hle, hys]
      rfl
    rw [ldF hld, PR_hm hmk.1 hmk.2.1]
    have e : ∀ (x : AV) (B : Heap), A ++ ((instL ti0 E0.tp A.length (TP ++ t :: tR) (Q ++ x :: R)).2 ++ B) = (A ++ (instL ti0 E0.tp A.length TP Q).2) ++ ((instT ti0 E0.tp (A.length + nbL Q) t x).2 ++ ((instL ti0 E0.tp (A.length + nbL Q + nbT x) tR R).2 ++ B)) := by
      intro x B
      simp only [hsplit, List.append_assoc]
    have hN : (A ++ (instL ti0 E0.tp A.length TP Q).2).length = A.length + nbL Q := by rw [List.length_append, instL_nb]
    rw [e]
    have key := hmk2 β (A ++ (instL ti0 E0.tp A.length TP Q).2) ((instL ti0 E0.tp (A.length + nbL Q + nbT (.ro m cells)) tR R).2 ++ D) (fun k H => bodyV (PR n β) tI (.ptr (A.length + nbL (Q ++ .ro m cells :: R) + idx) 0) todo k H K) res
    rw [hN] at key
    refine key fun X => ?_
    generalize hc' : (mkF (.sub fs) k (.ro m cells)).1 = c' at hn' hs' h ⊢
    have e1 : ∀ (Y : List AV), Q ++ c' :: Y = (Q ++ [c']) ++ Y := fun Y => by simp
    have e2 : TP ++ t :: tR = (TP ++ [t]) ++ tR := by simp
    have e3 : nbL (Q ++ .ro m cells :: R) = nbL ((Q ++ [c']) ++ R) := by
      rw [nbL_append, nbL_append, nbL_append]
      show nbL Q + (nbT (.ro m cells) + nbL R) = nbL Q + (nbT c' + 0) + nbL R
      rw [hn']
      omega
    have e4 := e c' (D ++ X)
    rw [hn'] at e4
    rw [List.append_assoc (instL ti0 E0.tp (A.length + nbL Q + nbT (.ro m cells)) tR R).2 D X, ← e4, e3, e2, e1 R]
    refine body_v (tI := tI) (idx := idx) (ys := ys) todo (off + 1) (Q ++ [c']) R (TP ++ [t]) tR (mkF (.sub fs) k (.ro m cells)).2 A (D ++ X) K hrest (by simp [hT]) (by simp [hq]) hwR (by omega) (by omega) ?_ ?_ fun Y => ?_
    · rw [← e1, ← e2, hsplit, hs', hn', hy]
    · rw [List.getElem?_append_left (List.getElem?_eq_some_iff.1 hD).1]
      exact hD
    · have := h (X ++ Y)
      have hm : mkL (flatV (.sub fs path g :: todo)) k (.ro m cells :: R) = (c' :: (mkL (flatV todo) (mkF (.sub fs) k (.ro m cells)).2 R).1, (mkL (flatV todo) (mkF (.sub fs) k (.ro m cells)).2 R).2) := by rw [← hc']; rfl
      rw [hm, e2, e1] at this
      rw [List.append_assoc D X Y]
      exact this
  | .agg l path w g :: todo, off, Q, R, TP, tR, k, A, D, K, hf, hT, hq, hw, h0, h1, hy, hD, h => by
    obtain ⟨hpath, hlw, hw0, hlv, hmk, hwt, hrest⟩ := hf
    have hRlen : w ≤ R.length := by
      have := wfL_len (show wfL (l ++ flatV todo) R from hw)
      rw [List.length_append] at this
      omega
    obtain ⟨c, R, rfl, hcl⟩ : ∃ c R', R = c ++ R' ∧ c.length = w := ⟨R.take w, R.drop w, (List.take_append_drop w R).symm, by rw [List.length_take]; omega⟩
    obtain ⟨t, tR, rfl, htl⟩ : ∃ c R', tR = c ++ R' ∧ c.length = w := ⟨tR.take w, tR.drop w, (List.take_append_drop w tR).symm, by rw [List.length_take]; omega⟩
    rw [List.take_left' htl] at hmk
    rw [List.drop_left' htl] at hrest
    have hlc : l.length = c.length := by rw [hlw, hcl]
    obtain ⟨hwc, hwR⟩ := (wfL_append hlc).1 (show wfL (l ++ flatV todo) (c ++ R) from hw)
    have h1 : k + (cntL l c + cntL (flatV todo) R : Nat) ≤ 4611686018427387904 := by
      have := cntL_append l (flatV todo) c R hlc
      rw [← this]
      exact h1
    have hk' := mkL_cnt c l k
    have hn' := mkL_nb c l k
    have hl' := mkL_len c l k
    have hs' := fun N => mkL_same (ti := ti0) (tp := E0.tp) c l k N t hlv hwc
    have hl : (instL ti0 E0.tp A.length TP Q).1.length = Q.length := instL_len _ _ _
    have hsplit : ∀ x : List AV, x.length = c.length → instL ti0 E0.tp A.length (TP ++ (t ++ tR)) (Q ++ (x ++ R)) = ((instL ti0 E0.tp A.length TP Q).1 ++ ((instL ti0 E0.tp (A.length + nbL Q) t x).1 ++ (instL ti0 E0.tp (A.length + nbL Q + nbL x) tR R).1), (instL ti0 E0.tp A.length TP Q).2 ++ ((instL ti0 E0.tp (A.length + nbL Q) t x).2 ++ (instL ti0 E0.tp (A.length + nbL Q + nbL x) tR R).2)) := by
      intro x hx
      rw [instL_append TP Q (t ++ tR) (x ++ R) _ hT, instL_nb, instL_append t x tR R _ (by rw [htl, hx, hcl]), instL_nb]
    rw [hsplit c rfl] at hy
    have hil : (instL ti0 E0.tp (A.length + nbL Q) t c).1.length = w := by rw [instL_len, hcl]
    have hys : ys.drop off = (instL ti0 E0.tp (A.length + nbL Q) t c).1 ++ (instL ti0 E0.tp (A.length + nbL Q + nbL c) tR R).1 := by
      rw [← hy, ← hq, ← hl, List.drop_append_of_le_length (Nat.le_refl _), List.drop_length, List.nil_append]
    have hlen : (instL ti0 E0.tp A.length (TP ++ (t ++ tR)) (Q ++ (c ++ R))).2.length = nbL (Q ++ (c ++ R)) := instL_nb _ _ _
    show (fadrs (PR n β) path (.ptr (A.length + nbL (Q ++ (c ++ R)) + idx) 0) fun t => pLoad true w t _ fun v => (PR n β).call tI (.fn g [] []) [v, .sc (.int .i64 k)] _ fun k H => bodyV (PR n β) tI _ todo k H K) = res
    rw [fadrs_ptr, hpath, Nat.zero_add]
    have hget : (A ++ ((instL ti0 E0.tp A.length (TP ++ (t ++ tR)) (Q ++ (c ++ R))).2 ++ D))[A.length + nbL (Q ++ (c ++ R)) + idx]? = some ⟨ys, true, true⟩ := by
      rw [List.getElem?_append_right (by omega), List.getElem?_append_right (by omega), hlen]
      rw [show A.length + nbL (Q ++ (c ++ R)) + idx - A.length - nbL (Q ++ (c ++ R)) = idx by omega]
      exact hD
    have hld : rdCells (A ++ ((instL ti0 E0.tp A.length (TP ++ (t ++ tR)) (Q ++ (c ++ R))).2 ++ D)) (A.length + nbL (Q ++ (c ++ R)) + idx) off w = some (instL ti0 E0.tp (A.length + nbL Q) t c).1 := by
      have hle : off + w ≤ ys.length := by
        have := congrArg List.length hys
        rw [List.length_drop, List.length_append, hil] at this
        omega
      simp only [rdCells, hget, if_true, hle, hys]
      rw [List.take_left' hil]
    rw [ldT hld, PR_hm hmk.1 hmk.2.1]
    have e : ∀ (x : List AV) (B : Heap), x.length = c.length → A ++ ((instL ti0 E0.tp A.length (TP ++ (t ++ tR)) (Q ++ (x ++ R))).2 ++ B) = (A ++ (instL ti0 E0.tp A.length TP Q).2) ++ ((instL ti0 E0.tp (A.length + nbL Q) t x).2 ++ ((instL ti0 E0.tp (A.length + nbL Q + nbL x) tR R).2 ++ B)) := by
      intro x B hx
      simp only [hsplit x hx, List.append_assoc]
    have hN : (A ++ (instL ti0 E0.tp A.length TP Q).2).length = A.length + nbL Q := by rw [List.length_append, instL_nb]
    rw [e c _ rfl]
    have key := hmk.2.2 c k β (A ++ (instL ti0 E0.tp A.length TP Q).2) ((instL ti0 E0.tp (A.length + nbL Q + nbL c) tR R).2 ++ D) (fun k H => bodyV (PR n β) tI (.ptr (A.length + nbL (Q ++ (c ++ R)) + idx) 0) todo k H K) res hwc h0 (by omega)
    rw [hN] at key
    refine key fun X => ?_
    have hm : mkL (flatV (.agg l path w g :: todo)) k (c ++ R) = ((mkL l k c).1 ++ (mkL (flatV todo) (mkL l k c).2 R).1, (mkL (flatV todo) (mkL l k c).2 R).2) := mkL_append l (flatV todo) k c R hlc
    generalize hc' : (mkL l k c).1 = c' at hn' hl' hs' hm ⊢
    have e1 : ∀ (Y : List AV), Q ++ (c' ++ Y) = (Q ++ c') ++ Y := fun Y => by simp
    have e2 : TP ++ (t ++ tR) = (TP ++ t) ++ tR := by simp
    have e3 : nbL (Q ++ (c ++ R)) = nbL ((Q ++ c') ++ R) := by
      rw [nbL_append, nbL_append, nbL_append, nbL_append, hn']
      omega
    have e4 := e c' (D ++ X) hl'
    rw [hn'] at e4
    rw [List.append_assoc (instL ti0 E0.tp (A.length + nbL Q + nbL c) tR R).2 D X, ← e4, e3, e2, e1 R]
    refine body_v (tI := tI) (idx := idx) (ys := ys) todo (off + w) (Q ++ c') R (TP ++ t) tR (mkL l k c).2 A (D ++ X) K hrest (by simp [hT, htl, hl', hcl]) (by simp [hq, hl', hcl]) hwR (by omega) (by omega) ?_ ?_ fun Y => ?_
    · rw [← e1, ← e2, hsplit _ hl', hs', hn', hy]
    · rw [List.getElem?_append_left (List.getElem?_eq_some_iff.1 hD).1]
      exact hD
    · have := h (X ++ Y)
      rw [hm, e2, e1] at this
      rw [List.append_assoc D X Y]
      exact this
/-- A function that writes into what a structure leads to. -/
theorem markv_ok {tI f : Nat} {cty : List Nat} {fvs : List FV} (hh : E0.hm f = true) (hx : E0.ext f = none) (hf : FvM n 0 fvs cty) (hv : (flatV fvs).all isV = true) (hlf : ∀ (cs : List AV) (N : Nat), wfL (flatV fvs) cs → (instL ti0 E0.tp N cty cs).1.all isLeaf = true)
    (hF : ∀ β a b H kk, evalFn E0 (n + 1) β f [a, b] H kk = pBox a H fun x H => bodyV (PR n β) tI x fvs b H kk) : MarkV (n + 1) f cty (flatV fvs) := by
  refine ⟨hh, hx, fun cs k β A C K r hw h0 hb h => ?_⟩
  rw [hF]
  have hc : cellsA (.agg (instL ti0 E0.tp A.length cty cs).1) = some (instL ti0 E0.tp A.length cty cs).1 := by
    show (if _ then _ else none) = _
    rw [if_pos (hlf cs _ hw)]
  simp only [pBox, hc, Option.bind_some, pNew]
  have hlen : (instL ti0 E0.tp A.length cty cs).2.length = nbL cs := instL_nb _ _ _
  have e1 : (A ++ ((instL ti0 E0.tp A.length cty cs).2 ++ C)).length = A.length + nbL ([] ++ cs) + C.length := by
    simp only [List.length_append, hlen, List.nil_append]
    omega
  rw [e1]
  have e2 : A ++ ((instL ti0 E0.tp A.length cty cs).2 ++ C) ++ [⟨(instL ti0 E0.tp A.length cty cs).1, true, true⟩] = A ++ ((instL ti0 E0.tp A.length ([] ++ cty) ([] ++ cs)).2 ++ (C ++ [⟨(instL ti0 E0.tp A.length cty cs).1, true, true⟩])) := by simp
  rw [e2]
  refine body_v fvs 0 [] cs [] cty k A _ K hf rfl rfl hw h0 hb rfl (by rw [List.getElem?_append_right (Nat.le_refl _), Nat.sub_self]; rfl) fun X => ?_
  have := h ([⟨(instL ti0 E0.tp A.length cty cs).1, true, true⟩] ++ X)
  simp only [List.append_assoc, List.nil_append] at this ⊢
  exact this
/-- What a structure's cells lead to is read, field by field. -/
theorem body_hv {tI : Nat} {F : Heap → Option β} (cells : List AV) (hfl : cells.all isFl = true) : ∀ (todo : List FV) (off : Nat) (Q R : List AV) (k : Int) (H : Heap) (K : AV → Heap → Option β),
    FvH n off todo → Q.length = off → wfL (flatV todo) R → 0 ≤ k → k + cntL (flatV todo) R ≤ 4611686018427387904 → cells = Q ++ (mkL (flatV todo) k R).1 → H[0]? = some ⟨cells, true, true⟩ →
    (∀ X, K (.sc (.int .i64 (mkL (flatV todo) k R).2)) (H ++ X) = res) →
    bodyHV (PR n β) tI (.ptr 0 0) F todo (.sc (.int .i64 k)) H K = res
  | [], off, Q, R, k, H, K, hf, hq, hw, h0, h1, hc, hH, h => by
    cases R with
    | nil =>
      have := h []
      rw [List.append_nil H] at this
      exact this
    | cons c R => exact absurd rfl hw.1
  | .skip :: todo, off, Q, R, k, H, K, hf, hq, hw, h0, h1, hc, hH, h => by
    cases R with
    | nil => exact absurd (show MF.skip :: flatV todo = [] from hw) (by simp)
    | cons c R =>
    obtain ⟨hwc, hwR⟩ := wfL_cons.1 (show wfL (MF.skip :: flatV todo) (c :: R) from hw)
    obtain ⟨v, rfl⟩ : ∃ v, c = .sc v := by
      cases c <;> first | exact ⟨_, rfl⟩ | exact hwc.elim
    have h1 : k + (0 + cntL (flatV todo) R : Nat) ≤ 4611686018427387904 := h1
    exact body_hv cells hfl todo (off + 1) (Q ++ [.sc v]) R k H K hf (by simp [hq]) hwR h0 (by omega) (by rw [List.append_assoc]; exact hc) hH h
  | .sub fs path g :: todo, off, Q, R, k, H, K, hf, hq, hw, h0, h1, hc, hH, h => by
    cases R with
    | nil => exact absurd (show MF.sub fs :: flatV todo = [] from hw) (by simp)
    | cons c R =>
    obtain ⟨hpath, hhe, hrest⟩ := hf
    obtain ⟨hwc, hwR⟩ := wfL_cons.1 (show wfL (MF.sub fs :: flatV todo) (c :: R) from hw)
    obtain ⟨m, cs, rfl⟩ : ∃ m cells, c = .ro m cells := by
      cases c with
      | ro m cells => exact ⟨m, cells, rfl⟩
      | sc v => exact hwc.elim
      | _ => exact hwc.elim
    have h1 : k + (cntF (.sub fs) (.ro m cs) + cntL (flatV todo) R : Nat) ≤ 4611686018427387904 := h1
    have hk' := mkF_cnt (.ro m cs) (.sub fs) k
    have hm : mkL (flatV (.sub fs path g :: todo)) k (.ro m cs :: R) = ((mkF (.sub fs) k (.ro m cs)).1 :: (mkL (flatV todo) (mkF (.sub fs) k (.ro m cs)).2 R).1, (mkL (flatV todo) (mkF (.sub fs) k (.ro m cs)).2 R).2) := rfl
    rw [hm] at hc h
    have hld : rdCells H 0 off 1 = some [(mkF (.sub fs) k (.ro m cs)).1] := by
      have hle : off + 1 ≤ cells.length := by
        rw [hc, List.length_append, List.length_cons]
        omega
      have hd : (cells.drop off).take 1 = [(mkF (.sub fs) k (.ro m cs)).1] := by
        rw [hc, ← hq, List.drop_append_of_le_length (Nat.le_refl _), List.drop_length]
        rfl
      simp only [rdCells, hH, if_true, hle, hd]
    show (fadrs (PR n β) path (.ptr 0 0) fun t => pLoad false 1 t H fun v => (PR n β).call tI (.fn g [] []) [v, .sc (.int .i64 k)] H fun k H => pBin .lss k (.sc (.int .i64 0)) fun b => pCond b (F H) (bodyHV (PR n β) tI _ F todo k H K)) = res
    rw [fadrs_ptr, hpath, Nat.zero_add, ldF hld, PR_call (vs := [(mkF (.sub fs) k (.ro m cs)).1, .sc (.int .i64 k)]) hhe.1 rfl (hhe.2 tI m cs k hwc h0 (by omega)), instT_sc, List.append_nil]
    simp only
    rw [lss64, cond_b, if_neg (by simp; omega)]
    exact body_hv cells hfl todo (off + 1) (Q ++ [(mkF (.sub fs) k (.ro m cs)).1]) R _ H K hrest (by simp [hq]) hwR (by omega) (by omega) (by rw [List.append_assoc]; exact hc) hH h
  | .agg l path w g :: todo, off, Q, R, k, H, K, hf, hq, hw, h0, h1, hc, hH, h => by
    obtain ⟨hpath, hlw, hw0, hhe, hrest⟩ := hf
    have hRlen : w ≤ R.length := by
      have := wfL_len (show wfL (l ++ flatV todo) R from hw)
      rw [List.length_append] at this
      omega
    obtain ⟨c, R, rfl, hcl⟩ : ∃ c R', R = c ++ R' ∧ c.length = w := ⟨R.take w, R.drop w, (List.take_append_drop w R).symm, by rw [List.length_take]; omega⟩
    have hlc : l.length = c.length := by rw [hlw, hcl]
    obtain ⟨hwc, hwR⟩ := (wfL_append hlc).1 (show wfL (l ++ flatV todo) (c ++ R) from hw)
    have h1 : k + (cntL l c + cntL (flatV todo) R : Nat) ≤ 4611686018427387904 := by
      have := cntL_append l (flatV todo) c R hlc
      rw [← this]
      exact h1
    have hk' := mkL_cnt c l k
    have hl' := mkL_len c l k
    have hm : mkL (flatV (.agg l path w g :: todo)) k (c ++ R) = ((mkL l k c).1 ++ (mkL (flatV todo) (mkL l k c).2 R).1, (mkL (flatV todo) (mkL l k c).2 R).2) := mkL_append l (flatV todo) k c R hlc
    rw [hm] at hc h
    have hd : (cells.drop off).take w = (mkL l k c).1 := by
      rw [hc, ← hq, List.drop_append_of_le_length (Nat.le_refl _), List.drop_length, List.nil_append, List.take_left' (by rw [hl', hcl])]
    have hld : rdCells H 0 off w = some (mkL l k c).1 := by
      have hle : off + w ≤ cells.length := by
        rw [hc, List.length_append, List.length_append, hl', hcl]
        omega
      simp only [rdCells, hH, if_true, hle, hd]
    have hfc : (mkL l k c).1.all isFl = true := by
      rw [hc, List.all_append, List.all_append, Bool.and_eq_true, Bool.and_eq_true] at hfl
      exact hfl.2.1
    show (fadrs (PR n β) path (.ptr 0 0) fun t => pLoad true w t H fun v => (PR n β).call tI (.fn g [] []) [v, .sc (.int .i64 k)] H fun k H => pBin .lss k (.sc (.int .i64 0)) fun b => pCond b (F H) (bodyHV (PR n β) tI _ F todo k H K)) = res
    rw [fadrs_ptr, hpath, Nat.zero_add, ldT hld, PR_call (vs := [.agg (mkL l k c).1, .sc (.int .i64 k)]) hhe.1 (vcons (Vw_agg _ hfc) (vcons (Vw_sc _ _) vnil)) (hhe.2 tI c k hwc h0 (by omega)), instT_sc, List.append_nil]
    simp only
    rw [lss64, cond_b, if_neg (by simp; omega)]
    exact body_hv cells hfl todo (off + w) (Q ++ (mkL l k c).1) R _ H K hrest (by simp [hq, hl', hcl]) hwR (by omega) (by omega) (by rw [List.append_assoc]; exact hc) hH h
theorem mkL_fl : ∀ (cs : List AV) (fs : List MF) (k : Int), wfL fs cs → fs.all isV = true → (mkL fs k cs).1.all isFl = true
  | [], fs, k, _, _ => by simp [mkL]
  | c :: cs, [], k, hw, _ => absurd rfl hw.1
  | c :: cs, f :: fs, k, hw, hv => by
    obtain ⟨h1, h2⟩ := wfL_cons.1 hw
    rw [List.all_cons, Bool.and_eq_true] at hv
    rw [mkL_cons, List.all_cons, mkL_fl cs fs _ h2 hv.2, Bool.and_true]
    cases c with
    | sc v => cases f <;> first | exact h1 | (exfalso; simpa [isV] using hv.1) | exact h1.elim
    | ro m cells => cases f <;> first | rfl | exact h1.elim
    | _ => exact h1.elim
/-- A function that reads what a structure leads to. -/
theorem heldv_ok {tI f : Nat} {fvs : List FV} (hh : plainF f = false) (hf : FvH n 0 fvs) (hv : (flatV fvs).all isV = true)
    (hF : ∀ a b H kk, evalFn E0 (n + 1) AV f [a, b] H kk = pBox a H fun x H => bodyHV (PR n AV) tI x (fun H => kk (.sc (.int .i64 (-1))) H) fvs b H kk) : HeldV (n + 1) f (flatV fvs) := by
  refine ⟨hh, fun ty cs k hw h0 hb => ?_⟩
  have hfl := mkL_fl cs (flatV fvs) k hw hv
  rw [tree_def, hF, box_fl _ _ _ hfl]
  exact body_hv (mkL (flatV fvs) k cs).1 hfl fvs 0 [] cs k _ _ hf rfl hw h0 hb rfl rfl (fun X => rfl)
end fns

end Go.Proofs.Ytfpmccedangjoaa.Abs
