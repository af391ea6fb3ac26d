/- DropSess, as both sides have it. -/
import Derived.Test.YtfpmccedangjoaaVStrC
import Derived.Test.YtfpmccedangjoaaMk
import Derived.Test.YtfpmccedangjoaaAt
set_option linter.unusedVariables false
set_option linter.unusedSimpArgs false
set_option maxRecDepth 100000
namespace Go.Proofs.Ytfpmccedangjoaa.Abs
open Go

theorem AtL.split {H : Heap} {ys : List AV} {N : Nat} {ts us : List Nat} {cs ds : List AV} (h : AtL H ys N (ts ++ us) (cs ++ ds)) (hl : ts.length = cs.length) : ∃ y1 y2, ys = y1 ++ y2 ∧ AtL H y1 N ts cs ∧ AtL H y2 (N + nbL cs) us ds := by
  obtain ⟨h1, h2, h3⟩ := h
  have e := instL_append (ti := ti0) (tp := E0.tp) ts cs us ds N hl
  rw [instL_nb] at e
  rw [e] at h1 h3
  rw [nbL_append] at h2
  have h4 := h3.right
  rw [instL_nb] at h4
  exact ⟨_, _, h1, ⟨rfl, by omega, h3.left⟩, ⟨rfl, by omega, h4⟩⟩
theorem AtL.own {d : Nat} {H : Heap} {ys : List AV} {N : Nat} {ts : List Nat} {cs : List AV} (h : AtL H ys N ts cs) (hok : okLW (okW ti0 E0.tp d) ts cs) : OwnC d H ts ys cs (List.range' N (nbL cs)) := by
  have := own_instL (fun ty t N h h' _ => own_inst d ty t N h h') ts cs N hok h.2.2 (instL_live _ _ _)
  rw [instL_nb, ← h.1] at this
  exact this

def ctyS (l : List SessV) : List Nat := (List.replicate l.length ctySess).flatten
def encL (l : List SessV) : List AV := (l.map encSess).flatten
theorem ctyS_cons (x : SessV) (l : List SessV) : ctyS (x :: l) = ctySess ++ ctyS l := by simp [ctyS, List.replicate_succ]
theorem encL_cons (x : SessV) (l : List SessV) : encL (x :: l) = encSess x ++ encL l := by simp [encL]
theorem ctyS_app (a b : List SessV) : ctyS (a ++ b) = ctyS a ++ ctyS b := by
  induction a with
  | nil => rfl
  | cons x a ih => rw [List.cons_append, ctyS_cons, ctyS_cons, ih, List.append_assoc]
theorem encL_app (a b : List SessV) : encL (a ++ b) = encL a ++ encL b := by simp [encL]
theorem encL_len (l : List SessV) : (encL l).length = l.length * 9 := rows_len lenSess l
theorem ctyS_len (l : List SessV) : (ctyS l).length = (encL l).length := by
  induction l with
  | nil => rfl
  | cons x l ih => rw [ctyS_cons, encL_cons, List.length_append, List.length_append, ih]; rfl
theorem okS_L (d : Nat) (l : List SessV) : okLW (okW ti0 E0.tp (d + 3)) (ctyS l) (encL l) := okLW_rows l fun x _ => okWSess d x
theorem flL (l : List SessV) : (encL l).all isFl = true := by
  induction l with
  | nil => rfl
  | cons x l ih => rw [encL_cons, List.all_append, ih, flSess]; rfl

/-- What is kept so far: it is the call's own. -/
def Kp (H : Heap) (kept : List SessV) (kr : List AV) (ids : List Nat) (lo hi : Nat) : Prop := OwnC 6 H (ctyS kept) kr (encL kept) ids ∧ ids.Nodup ∧ ∀ i ∈ ids, lo ≤ i ∧ i < hi
theorem Kp.add {H : Heap} {kept : List SessV} {kr rx : List AV} {ids : List Nat} {lo N : Nat} {x : SessV} (h : Kp H kept kr ids lo N) (a : AtL H rx N ctySess (encSess x)) (hlo : lo ≤ N) : Kp H (kept ++ [x]) (kr ++ rx) (ids ++ List.range' N (nbL (encSess x))) lo (N + nbL (encSess x)) := by
  obtain ⟨h1, h2, h3⟩ := h
  have e1 : ctyS (kept ++ [x]) = ctyS kept ++ ctySess := by rw [ctyS_app, ctyS_cons]; simp [ctyS]
  have e2 : encL (kept ++ [x]) = encL kept ++ encSess x := by rw [encL_app, encL_cons]; simp [encL]
  refine ⟨?_, ?_, fun i hi => ?_⟩
  · rw [e1, e2]
    exact h1.append (a.own (okWSess 3 x))
  · rw [List.nodup_append]
    refine ⟨h2, List.nodup_range', fun i hi j hj => ?_⟩
    have := h3 i hi
    rw [List.mem_range'_1] at hj
    omega
  · rcases List.mem_append.1 hi with hi | hi
    · have := h3 i hi
      omega
    · rw [List.mem_range'_1] at hi
      omega
theorem Kp.wide {H : Heap} {kept : List SessV} {kr : List AV} {ids : List Nat} {lo hi hi' : Nat} (h : Kp H kept kr ids lo hi) (hh : hi ≤ hi') : Kp H kept kr ids lo hi' := ⟨h.1, h.2.1, fun i hi => ⟨(h.2.2 i hi).1, Nat.lt_of_lt_of_le (h.2.2 i hi).2 hh⟩⟩
theorem Kp.frame {H H' : Heap} {kept : List SessV} {kr : List AV} {ids : List Nat} {lo hi : Nat} (h : Kp H kept kr ids lo hi) (hs : ∀ i ∈ ids, H'[i]? = H[i]?) : Kp H' kept kr ids lo hi := ⟨h.1.frame hs, h.2.1, h.2.2⟩

def del (c : ByteArray) (x : SessV) : Bool := x.fClient.toList == c.toList
def keep (c : ByteArray) (l : List SessV) : List SessV := l.filter fun x => !(del c x)
theorem delClo (n ty : Nat) (x : SessV) (c : ByteArray) : tree E0 (n + 1) ty 28 [.agg (encSess x), .rp [.sc (.string c)]] = some (.sc (.bool (del c x))) := by
  rw [tree_def, f28_eq, f28]
  simp only [PR_box, PR_fadr, PR_load, PR_bin]
  refine w_box (flSess _) fun i e hi => ?_
  refine w_fadr ?_
  refine w_ld (c := .sc (.string x.fClient)) hi (Nat.le_of_ble_eq_true rfl) rfl ?_
  refine w_ld_rp (c := .sc (.string c)) rfl ?_
  rw [eqlS]
  rfl
theorem delIndexF (n : Nat) (hn : 1048576 < n) (ty : Nat) (l : List SessV) (c : ByteArray) (hl : l.length ≤ 1048576) : tree E0 (n + 2) ty 41 [rowsC encSess l, .fn 28 [] [.rp [.sc (.string c)]]] = some (.sc (.int .i64 (idxOf (del c) l 0))) := by
  rw [tree_def, f41_eq, f41]
  simp only [PR_len]
  rw [len_ro]
  have key := index_loop (n := n + 1) (tb := 4) (g := 28) (caps := [.rp [.sc (.string c)]]) encSess (del c) (fun x H => ownTree ti0 E0.tp ty H x) lenSess (by decide) flSess rfl (fun H => rfl) (fun m a b c i H => f41_l0 (PR (n + 1) AV) (n + 1) (fun x H => ownTree ti0 E0.tp ty H x) m a b c i H) (fun m a b c i H => rfl) l (fun x _ => delClo n _ x c) hl [] l [] (n + 1) rfl (by omega)
  simp only [List.length_nil, Int.natCast_zero] at key
  rw [key]
  rfl
theorem idx_or (p : SessV → Bool) : ∀ (l : List SessV) (i : Nat), (idxOf p l i = -1 ∧ ∀ x ∈ l, p x = false) ∨ ∃ pre x t, l = pre ++ x :: t ∧ (∀ y ∈ pre, p y = false) ∧ p x = true ∧ idxOf p l i = (i : Int) + pre.length
  | [], i => .inl ⟨rfl, fun x hx => by cases hx⟩
  | x :: l, i => by
    rw [idxOf]
    cases hx : p x
    · rw [if_neg (by simp)]
      rcases idx_or p l (i + 1) with ⟨h1, h2⟩ | ⟨pre, y, t, rfl, h2, h3, h4⟩
      · refine .inl ⟨h1, fun z hz => ?_⟩
        rcases List.mem_cons.1 hz with rfl | hz
        · exact hx
        · exact h2 z hz
      · refine .inr ⟨x :: pre, y, t, rfl, fun z hz => ?_, h3, ?_⟩
        · rcases List.mem_cons.1 hz with rfl | hz
          · exact hx
          · exact h2 z hz
        · rw [h4, List.length_cons]
          omega
    · rw [if_pos rfl]
      exact .inr ⟨[], x, l, rfl, fun y hy => (by cases hy), hx, by simp⟩
theorem keep_all (c : ByteArray) (l : List SessV) (h : ∀ x ∈ l, del c x = false) : keep c l = l := by
  unfold keep
  rw [List.filter_eq_self]
  intro x hx
  rw [h x hx]
  rfl
theorem keep_app (c : ByteArray) (a b : List SessV) : keep c (a ++ b) = keep c a ++ keep c b := List.filter_append ..
theorem keep_cons (c : ByteArray) (x : SessV) (l : List SessV) : keep c (x :: l) = (if del c x then keep c l else x :: keep c l) := by
  unfold keep
  rw [List.filter_cons]
  cases del c x <;> rfl

/-- What stands when the loop is at some place: what is kept, what is junk, the rest. -/
structure DI (H : Heap) (ib ic : Nat) (c : ByteArray) (kept rest : List SessV) (kr M rr : List AV) (ids : List Nat) (j N : Nat) : Prop where
  blk : H[ib]? = some ⟨kr ++ (M ++ rr), true, true⟩
  cl : H[ic]? = some ⟨[.sc (.string c)], true, true⟩
  kp : Kp H kept kr ids (ib + 1) N
  seg : AtL H rr N (ctyS rest) (encL rest)
  krl : kr.length = kept.length * 9
  ml : M.length = (j - kept.length) * 9
  lt : kept.length < j
  low : ib < N
  ne : ic < ib

theorem kept_set {H : Heap} {i : Nat} {b : Blk} : Kept H (H.set i b) i 1 := ⟨by rw [List.length_set]; exact Nat.le_refl _, fun j b hj hd => by rw [List.getElem?_set_ne (by omega)]; exact hj⟩
theorem DI.grow {H : Heap} {ib ic : Nat} {c : ByteArray} {kept rest : List SessV} {kr M rr : List AV} {ids : List Nat} {j N : Nat} (h : DI H ib ic c kept rest kr M rr ids j N) (X : List Blk) : DI (H ++ X) ib ic c kept rest kr M rr ids j N :=
  ⟨blk_grow h.blk X, blk_grow h.cl X, h.kp.frame fun i hi => List.getElem?_append_left (h.kp.1.lt i hi), h.seg.grow X, h.krl, h.ml, h.lt, h.low, h.ne⟩
/-- One more that is dropped. -/
theorem DI.skip {H : Heap} {ib ic : Nat} {c : ByteArray} {kept rest : List SessV} {kr M rx rr : List AV} {ids : List Nat} {j N : Nat} {x : SessV} (h : DI H ib ic c kept (x :: rest) kr M (rx ++ rr) ids j N) (hx : rx.length = 9) (hr : AtL H rr (N + nbL (encSess x)) (ctyS rest) (encL rest)) : DI H ib ic c kept rest kr (M ++ rx) rr ids (j + 1) (N + nbL (encSess x)) := by
  have := h.lt
  have hm := h.ml
  have hl := h.low
  refine ⟨by rw [List.append_assoc]; exact h.blk, h.cl, h.kp.wide (by omega), hr, h.krl, ?_, by omega, by omega, h.ne⟩
  rw [List.length_append, hm, hx]
  omega
/-- One more that is kept. -/
theorem DI.put {H : Heap} {ib ic : Nat} {c : ByteArray} {kept rest : List SessV} {kr M rx rr : List AV} {ids : List Nat} {j N : Nat} {x : SessV} (h : DI H ib ic c kept (x :: rest) kr M (rx ++ rr) ids j N) (hx : AtL H rx N ctySess (encSess x)) (hr : AtL H rr (N + nbL (encSess x)) (ctyS rest) (encL rest)) :
    DI (H.set ib ⟨splice (kr ++ (M ++ (rx ++ rr))) (kept.length * 9) rx, true, true⟩) ib ic c (kept ++ [x]) rest (kr ++ rx) ((M ++ rx).drop 9) rr (ids ++ List.range' N (nbL (encSess x))) (j + 1) (N + nbL (encSess x)) := by
  have h1 := h.lt
  have hm := h.ml
  have hl := h.low
  have hib : ib < H.length := (List.getElem?_eq_some_iff.1 h.blk).1
  have hxl : rx.length = 9 := hx.len
  have hs : splice (kr ++ (M ++ (rx ++ rr))) (kept.length * 9) rx = (kr ++ rx) ++ ((M ++ rx).drop 9 ++ rr) := by
    have hsp := splice_mid kr ((M ++ rx).take 9) ((M ++ rx).drop 9 ++ rr) rx (by rw [List.length_take, List.length_append, hxl]; omega)
    rw [← List.append_assoc ((M ++ rx).take 9), List.take_append_drop, h.krl] at hsp
    rw [List.append_assoc M rx rr] at hsp
    rw [hsp, List.append_assoc]
  rw [hs]
  have hk := h.kp.add hx (by omega)
  refine ⟨List.getElem?_set_self hib, by rw [List.getElem?_set_ne (by have := h.ne; omega)]; exact h.cl, hk.frame fun i hi => ?_, hr.kept kept_set (by omega), ?_, ?_, ?_, by omega, h.ne⟩
  · have := (hk.2.2 i hi).1
    rw [List.getElem?_set_ne (by omega)]
  · rw [List.length_append, h.krl, hxl, List.length_append, List.length_singleton]
    omega
  · rw [List.length_drop, List.length_append, hm, hxl, List.length_append, List.length_singleton]
    omega
  · rw [List.length_append, List.length_singleton]
    omega

variable {r : Option AV}
theorem del_loop (n : Nat) (c : ByteArray) (len ib ic : Nat) (hlen : len ≤ 1048576) (K : AV → Heap → Option AV) (H0 : Heap) (hi : Nat) (fin : List SessV)
    (h : ∀ H' kr Z ids, H'[ib]? = some ⟨kr ++ Z, true, true⟩ → kr.length = fin.length * 9 → Kp H' fin kr ids (ib + 1) hi → (∀ i, i < H0.length → i ≠ ib → H'[i]? = H0[i]?) → H0.length ≤ H'.length → K (.sl ib 0 fin.length 9) H' = r) :
    ∀ (rest : List SessV) (m : Nat) (kept : List SessV) (kr M rr : List AV) (ids : List Nat) (j N : Nat) (H : Heap), rest.length < m → j + rest.length = len → kept ++ keep c rest = fin → N + nbL (encL rest) ≤ hi → DI H ib ic c kept rest kr M rr ids j N → (∀ i, i < H0.length → i ≠ ib → H[i]? = H0[i]?) → H0.length ≤ H.length →
      f27_l0 (PR (n + 1) AV) (n + 1) K m (.sl ib 0 len 9) (.fn 28 [] [.ptr ic 0]) (.sc (.int .i64 kept.length)) (.sc (.int .i64 j)) H = r
  | [], m + 1, kept, kr, M, rr, ids, j, N, H, hm, hj, hf, hN, hd, hfr, hle => by
    have hjl : j = len := by simpa using hj
    subst hjl
    have hrr : rr = [] := hd.seg.nil
    have hkl := hd.lt
    have hml := hd.ml
    have hkr := hd.krl
    subst hrr
    have hff : kept = fin := by rw [← hf]; simp [keep]
    subst hff
    show (PR (n + 1) AV).len _ _ = _
    simp only [PR_len, PR_bin, PR_cond, PR_slice, PR_clear]
    rw [len_sl, lss_nat, cond_b, if_neg (by simp)]
    have e1 : ∀ k : AV → Option AV, pSlice 9 (.sl ib 0 j 9) (some (.sc (.int .i64 kept.length))) none k = k (.sl ib (kept.length * 9) (j - kept.length) 9) := by
      intro k
      simp only [pSlice, lenA, bound, asI, Option.bind_some, if_true]
      rw [if_pos (by omega)]
      congr 2
      · omega
      · omega
    have e2 : ∀ k : AV → Option AV, pSlice 9 (.sl ib 0 j 9) none (some (.sc (.int .i64 kept.length))) k = k (.sl ib 0 kept.length 9) := by
      intro k
      simp only [pSlice, lenA, bound, asI, Option.bind_some, if_true]
      rw [if_pos (by omega)]
      congr 2
    rw [e1]
    obtain ⟨q, hq⟩ : ∃ q, j - kept.length = q + 1 := ⟨j - kept.length - 1, by omega⟩
    rw [hq] at hml ⊢
    have hb := hd.blk
    rw [List.append_nil] at hb
    have hcl : ∀ (z : List AV) (k : Heap → Option AV), z.length = 9 → pClear 9 z (.sl ib (kept.length * 9) (q + 1) 9) H k = k (H.set ib ⟨splice (kr ++ M) (kept.length * 9) ((List.replicate (q + 1) z).flatten), true, true⟩) := by
      intro z k hz
      simp only [pClear, if_true, hb]
      rw [if_pos (by rw [List.length_append, hkr, hml]; exact Nat.le_refl _)]
    rw [hcl _ _ rfl, e2]
    generalize hz : (List.replicate (q + 1) _).flatten = Z
    have hZ : Z.length = M.length := by
      rw [← hz, hml]
      simp
    have hsp := splice_mid kr M [] Z hZ.symm
    rw [List.append_nil, List.append_nil, hkr] at hsp
    rw [hsp]
    have hib : ib < H.length := (List.getElem?_eq_some_iff.1 hd.blk).1
    refine h _ kr Z ids (List.getElem?_set_self hib) hkr ((hd.kp.frame fun i hi => ?_).wide (by have : nbL (encL ([] : List SessV)) = 0 := rfl; omega)) (fun i h1 h2 => ?_) (by rw [List.length_set]; exact hle)
    · have := (hd.kp.2.2 i hi).1
      rw [List.getElem?_set_ne (by omega)]
    · rw [List.getElem?_set_ne (fun e => h2 e.symm)]
      exact hfr i h1 h2
  | x :: rest, m + 1, kept, kr, M, rr, ids, j, N, H, hm, hj, hf, hN, hd, hfr, hle => by
    have hjl : j < len := by rw [← hj]; simp
    have hseg := hd.seg
    rw [ctyS_cons, encL_cons] at hseg
    obtain ⟨rx, rr', rfl, hx, hr⟩ := hseg.split rfl
    have hxl : rx.length = 9 := hx.len
    have hxf : rx.all isLeaf = true := hx.leaf (flSess x)
    have hkl := hd.lt
    have hnb : nbL (encL (x :: rest)) = nbL (encSess x) + nbL (encL rest) := by rw [encL_cons, nbL_append]
    show (PR (n + 1) AV).len _ _ = _
    simp only [PR_len, PR_bin, PR_cond, PR_slice, PR_clear, PR_iadr, PR_load, PR_new, PR_store, PR_un]
    rw [len_sl, lss_nat, cond_b, if_pos (by simpa using hjl), iadr_sl 9 len ib 0 j _ hjl]
    have hcells : ((kr ++ (M ++ (rx ++ rr'))).drop (0 + j * 9)).take 9 = rx := by
      have hpre : (kr ++ M).length = 0 + j * 9 := by rw [List.length_append, hd.krl, hd.ml]; omega
      rw [← List.append_assoc, List.drop_append_of_le_length (by omega), ← hpre, List.drop_length, List.nil_append, ← hxl, List.take_left' rfl]
    refine w_ldA (ds := rx) hd.blk (by rw [List.length_append, List.length_append, List.length_append, hd.krl, hd.ml, hxl]; omega) hcells ?_
    refine lm_put rfl hxl hxf fun i7 hi7 h7 => ?_
    have hd7 := hd.grow [⟨rx, true, true⟩]
    have hx7 := hx.grow [⟨rx, true, true⟩]
    have hr7 := hr.grow [⟨rx, true, true⟩]
    refine lw_ld h7 hxl ?_
    rw [PR_callC (vs := [.agg (encSess x), .rp [.sc (.string c)]]) rfl (by
      have v1 := (hx7.vw (okWSess 4 x)).now
      have v2 : viewV (H ++ [⟨rx, true, true⟩]) 8 (.ptr ic 0) = some (.rp [.sc (.string c)]) := by
        show ((H ++ [(⟨rx, true, true⟩ : Blk)])[ic]?).bind (fun b => (rdCells (H ++ [⟨rx, true, true⟩]) ic 0 (b.cells.length - 0)).bind fun cs => (cs.mapM (viewV (H ++ [⟨rx, true, true⟩]) 7)).bind fun vs => some (AV.rp vs)) = _
        have hg := hd7.cl
        simp only [rdCells, hg, Option.bind_some, if_true]
        rfl
      simp only [List.cons_append, List.nil_append, List.mapM_cons, List.mapM_nil, v1, v2]
      rfl) (delClo n _ x c), instT_sc, List.append_nil]
    refine w_not ?_
    rw [keep_cons] at hf
    cases hdx : del c x
    · rw [hdx] at hf
      refine w_cT rfl ?_
      refine lw_ld h7 hxl ?_
      rw [iadr_sl 9 len ib 0 kept.length _ (by omega)]
      rw [st_at 9 ib (0 + kept.length * 9) _ _ rx _ _ hd7.blk (by show (if rx.all isLeaf then some rx else none) = _; rw [if_pos hxf]) hxl (by show _ ≤ (kr ++ (M ++ (rx ++ rr'))).length; rw [List.length_append, List.length_append, List.length_append, hd.krl, hd.ml, hxl]; omega) rfl]
      have hput := hd7.put hx7 hr7
      rw [Nat.zero_add]
      refine w_bin (v := .sc (.int .i64 ((kept.length + 1 : Nat) : Int))) (fun k => inc_nat _ _ (by omega)) ?_
      refine w_bin (v := .sc (.int .i64 ((j + 1 : Nat) : Int))) (fun k => inc_nat _ _ (by omega)) ?_
      have ih := del_loop n c len ib ic hlen K H0 hi fin h rest m (kept ++ [x]) (kr ++ rx) _ rr' _ (j + 1) (N + nbL (encSess x)) _ (by simpa using hm) (by rw [← hj, List.length_cons]; omega) (by rw [← hf]; simp) (by omega) hput (fun i h1 h2 => by
        rw [List.getElem?_set_ne (fun e => h2 e.symm), List.getElem?_append_left (by omega)]
        exact hfr i h1 h2) (by rw [List.length_set, List.length_append]; omega)
      rw [List.length_append, List.length_singleton] at ih
      exact ih
    · rw [hdx] at hf
      refine w_cF rfl ?_
      refine w_bin (v := .sc (.int .i64 ((j + 1 : Nat) : Int))) (fun k => inc_nat _ _ (by omega)) ?_
      exact del_loop n c len ib ic hlen K H0 hi fin h rest m kept kr (M ++ rx) rr' ids (j + 1) (N + nbL (encSess x)) _ (by simpa using hm) (by rw [← hj, List.length_cons]; omega) hf (by omega) (hd7.skip hxl hr7) (fun i h1 h2 => by
        rw [List.getElem?_append_left (by omega)]
        exact hfr i h1 h2) (by rw [List.length_append]; omega)

/-- slices.DeleteFunc, on a list of the caller's own. -/
theorem del_run (n : Nat) (hn : 1048576 < n) (ty : Nat) (c : ByteArray) (l : List SessV) (hlen : l.length ≤ 1048576) {H : Heap} {ib ic : Nat} (ha : AtT H (.sl ib 0 l.length 9) ib 26 (rowsC encSess l)) (hcl : H[ic]? = some ⟨[.sc (.string c)], true, true⟩) (hne : ic < ib) (K : AV → Heap → Option AV)
    (h : ∀ H' kr Z ids, H'[ib]? = some ⟨kr ++ Z, true, true⟩ → kr.length = (keep c l).length * 9 → Kp H' (keep c l) kr ids (ib + 1) (ib + 1 + nbL (encL l)) → (∀ i, i < H.length → i ≠ ib → H'[i]? = H[i]?) → H.length ≤ H'.length → K (.sl ib 0 (keep c l).length 9) H' = r) :
    (PR (n + 3) AV).call ty (.fn 27 [] []) [.sl ib 0 l.length 9, .fn 28 [] [.ptr ic 0]] H (fun x H => K x H) = r := by
  rw [PR_hm rfl rfl, f27_eq, f27]
  simp only [PR_bin, PR_cond]
  refine lw_sc rfl (vcons (ha.vw (okW_rows (d := 7) lenSess tySessS (okWSess 4) l)) (vcons (Vw_fn1 hcl rfl) vnil)) (delIndexF n hn _ l c hlen) ?_
  obtain ⟨i, j, h1, h2, h3, h4⟩ := tySessS
  have hi : instT ti0 E0.tp ib 26 (rowsC encSess l) = (.sl ib 0 l.length 9, ⟨(instL ti0 E0.tp (ib + 1) (ctyS l) (encL l)).1, true, true⟩ :: (instL ti0 E0.tp (ib + 1) (ctyS l) (encL l)).2) := by
    show instT ti0 E0.tp ib 26 (.ro l.length (l.map encSess).flatten) = _
    simp only [instT, h1, Option.bind_some, h2, Option.getD_some, h3, h4]
    rfl
  have hl := ha.2.2
  rw [hi] at hl
  have hb : H[ib]? = some ⟨(instL ti0 E0.tp (ib + 1) (ctyS l) (encL l)).1, true, true⟩ := hl 0 _ rfl
  have hnb : nbT (rowsC encSess l) = 1 + nbL (encL l) := rfl
  have hsz := ha.2.1
  rw [hnb] at hsz
  have hseg : AtL H (instL ti0 E0.tp (ib + 1) (ctyS l) (encL l)).1 (ib + 1) (ctyS l) (encL l) := ⟨rfl, by omega, hl.tail⟩
  generalize (instL ti0 E0.tp (ib + 1) (ctyS l) (encL l)).1 = raw at hb hseg
  rcases idx_or (del c) l 0 with ⟨e1, e2⟩ | ⟨pre, x, t, rfl, e2, e3, e4⟩
  · rw [e1]
    refine w_bin (v := .sc (.bool true)) (fun k => rfl) ?_
    refine w_cT rfl ?_
    have hk := keep_all c l e2
    rw [hk] at h
    refine h H raw [] _ (by rw [List.append_nil]; exact hb) (by rw [hseg.len, encL_len]) ⟨hseg.own (okS_L 3 l), List.nodup_range', fun i hi => ?_⟩ (fun _ _ _ => rfl) (Nat.le_refl _)
    rw [List.mem_range'_1] at hi
    omega
  · rw [e4]
    refine w_bin (v := .sc (.bool false)) (fun k => ?_) ?_
    · show k (.sc (.bool (((0 : Int) + pre.length) == -1))) = _
      have : (((0 : Int) + pre.length) == -1) = false := by
        rw [beq_eq_false_iff_ne]
        omega
      rw [this]
    refine w_cF rfl ?_
    rw [show ((0 : Nat) : Int) = 0 from rfl, Int.zero_add]
    have hlen2 : pre.length + 1 + t.length = (pre ++ x :: t).length := by simp; omega
    refine w_bin (v := .sc (.int .i64 ((pre.length + 1 : Nat) : Int))) (fun k => inc_nat _ _ (by omega)) ?_
    rw [ctyS_app, encL_app] at hseg
    obtain ⟨rp, rr, rfl, hp, hr⟩ := hseg.split (ctyS_len pre)
    rw [ctyS_cons, encL_cons] at hr
    obtain ⟨rx, rt, rfl, hx, ht⟩ := hr.split rfl
    have hxl : rx.length = 9 := hx.len
    have hk : pre ++ keep c t = keep c (pre ++ x :: t) := by
      rw [keep_app, keep_all c pre e2, keep_cons, e3]
      rfl
    have hnn : nbL (encL (pre ++ x :: t)) = nbL (encL pre) + (nbL (encSess x) + nbL (encL t)) := by rw [encL_app, encL_cons, nbL_append, nbL_append]
    exact del_loop (n + 1) c (pre ++ x :: t).length ib ic hlen K H (ib + 1 + nbL (encL (pre ++ x :: t))) (keep c (pre ++ x :: t)) h t (n + 2) pre rp rx rt _ (pre.length + 1) (ib + 1 + nbL (encL pre) + nbL (encSess x)) H (by omega) hlen2 hk (by omega)
      ⟨hb, hcl, ⟨hp.own (okS_L 3 pre), List.nodup_range', fun i hi => by rw [List.mem_range'_1] at hi; omega⟩, ht, by rw [hp.len, encL_len], by rw [hxl]; omega, by omega, by omega, hne⟩ (fun _ _ _ => rfl) (Nat.le_refl _)

def vDrop (s : StripeV) (c : ByteArray) : StripeV := { s with fL := keep c s.fL }
theorem own_pre {H : Heap} {ib : Nat} {l : List SessV} {kr Z : List AV} {ids : List Nat} {lo hi : Nat} (hb : H[ib]? = some ⟨kr ++ Z, true, true⟩) (hl : kr.length = l.length * 9) (hk : Kp H l kr ids lo hi) : ownT ti0 E0.tp H 7 26 (.sl ib 0 l.length 9) = some (rowsC encSess l, ib :: ids) := by
  obtain ⟨i, j, h1, h2, h3, h4⟩ := tySessS
  rw [ownT_sl]
  have ha : isApp H ib = true := by simp only [isApp, hb]
  have hr : rdCells H ib 0 (l.length * 9) = some kr := by
    simp only [rdCells, hb, if_true, Nat.zero_add, List.drop_zero]
    rw [if_pos (by rw [List.length_append]; omega), ← hl, List.take_left' rfl]
  have ho : ownL (ownT ti0 E0.tp H 6) (List.replicate l.length ctySess).flatten kr = some (encL l, ids) := hk.1
  simp only [h1, h2, Option.bind_some, h3, if_true, ha, hr, h4, ho]
  rfl
/-- The end, on impl's side. -/
theorem drop_fin {H : Heap} {s : StripeV} {l : List SessV} {i5 ib : Nat} {x : AV} {kr Z : List AV} {ids : List Nat} {hi : Nat} (h5 : H[i5]? = some ⟨[.sc (.int .i64 s.fHeld), x], true, true⟩) (h2 : H[2]? = some ⟨zzStripe, true, true⟩) (hb : H[ib]? = some ⟨kr ++ Z, true, true⟩) (hl : kr.length = l.length * 9) (hk : Kp H l kr ids (ib + 1) hi) (h25 : i5 ≠ 2) (hb5 : ib ≠ i5) (hb2 : 2 < ib) (hi5 : hi ≤ i5) :
    (pStore 1 (.ptr i5 (0 + 1)) (.sl ib 0 l.length 9) H fun H => pLoad true 2 (.ptr i5 0) H fun t => pStore 2 (.ptr 2 0) t H fun H => pLoad true 2 (.ptr 2 0) H fun r0 => ownTree ti0 E0.tp 28 H r0) = some (.agg (encStripe { s with fL := l })) := by
  have l5 : i5 < H.length := (List.getElem?_eq_some_iff.1 h5).1
  have l2 : 2 < H.length := (List.getElem?_eq_some_iff.1 h2).1
  rw [st_at 1 i5 (0 + 1) _ _ [.sl ib 0 l.length 9] _ _ h5 rfl rfl (Nat.le_of_ble_eq_true rfl) rfl]
  refine w_ldA (cs := [.sc (.int .i64 s.fHeld), .sl ib 0 l.length 9]) (ds := [.sc (.int .i64 s.fHeld), .sl ib 0 l.length 9]) (by rw [List.getElem?_set_self l5]; rfl) (Nat.le_of_ble_eq_true rfl) rfl ?_
  have h2' : (H.set i5 ⟨splice [.sc (.int .i64 s.fHeld), x] (0 + 1) [.sl ib 0 l.length 9], true, true⟩)[2]? = some ⟨zzStripe, true, true⟩ := by rw [List.getElem?_set_ne h25]; exact h2
  rw [st_at 2 2 0 _ ⟨zzStripe, true, true⟩ [.sc (.int .i64 s.fHeld), .sl ib 0 l.length 9] _ _ h2' rfl rfl (Nat.le_of_ble_eq_true rfl) rfl]
  refine w_ldA (cs := [.sc (.int .i64 s.fHeld), .sl ib 0 l.length 9]) (ds := [.sc (.int .i64 s.fHeld), .sl ib 0 l.length 9]) (by rw [List.getElem?_set_self (by rw [List.length_set]; exact l2)]; rfl) (Nat.le_of_ble_eq_true rfl) rfl ?_
  generalize (⟨splice [.sc (.int .i64 s.fHeld), x] (0 + 1) [.sl ib 0 l.length 9], true, true⟩ : Blk) = b5
  generalize (⟨splice zzStripe 0 [.sc (.int .i64 s.fHeld), .sl ib 0 l.length 9], true, true⟩ : Blk) = b2
  have fr : ∀ i, i ≠ i5 → i ≠ 2 → ((H.set i5 b5).set 2 b2)[i]? = H[i]? := fun i h1 h2 => by rw [List.getElem?_set_ne (fun e => h2 e.symm), List.getElem?_set_ne (fun e => h1 e.symm)]
  have e1 := own_pre (H := (H.set i5 b5).set 2 b2) (by rw [fr ib hb5 (by omega)]; exact hb) hl (hk.frame fun i hi' => fr i (by have := hk.2.2 i hi'; omega) (by have := hk.2.2 i hi'; omega))
  obtain ⟨i, hi', hcy⟩ := tyStripe
  rw [ownTree, ownT_agg, hi', Option.bind_some, hcy]
  simp only [ctyStripe, ownL, ownT_sc, e1, Option.bind_some, List.nil_append, List.append_nil]
  rw [if_pos]
  · rfl
  · rw [List.nodup_cons]
    refine ⟨fun hm => ?_, hk.2.1⟩
    have := (hk.2.2 ib hm).1
    omega
theorem smC (s : StripeV) (h : wtStripe s ≤ 1048576) : smStripeC s := by
  have h1 := smwStripe s h
  refine ⟨h1.1.1, fun x hx => ?_⟩
  have h2 := h1.1.2 x hx
  exact ⟨⟨⟨h2.1.1, fun y hy => (h2.1.2 y hy).1⟩, ⟨h2.2.1.1, fun y hy => (h2.2.1.2 y hy).1⟩⟩, h2.2.2.1⟩
theorem inst_stripe (N : Nat) (s : StripeV) : instL ti0 E0.tp N ctyStripe (encStripe s) = ([.sc (.int .i64 s.fHeld), (instT ti0 E0.tp N 26 (rowsC encSess s.fL)).1], (instT ti0 E0.tp N 26 (rowsC encSess s.fL)).2) := by
  show instL ti0 E0.tp N [3, 26] [.sc (.int .i64 s.fHeld), rowsC encSess s.fL] = _
  simp only [instL, List.headD_cons, List.tail_cons, instT_sc, List.length_nil, Nat.add_zero, List.nil_append, List.append_nil]
theorem implF_DropSess (n : Nat) (hn : 1048576 < n) (x0 : StripeV) (x1 : ByteArray) (k0 : okStripe x0) (k1 : okS x1) (b0 : wtStripe x0 ≤ 1048576) (b1 : x1.size ≤ 1048576) : tree E0 (n + 7) 28 16 [.agg (encStripe x0), .sc (.string x1)] = some (.agg (encStripe (vDrop x0 x1))) := by
  have hs := smC x0 b0
  rw [tree_def, f16_eq, f16]
  simp only [PR_box, PR_new, PR_load, PR_store, PR_fadr, pNew]
  rw [box_fl _ _ _ (flStripe x0)]
  refine w_boxS rfl fun i2 e2 _ => ?_
  subst e2
  simp only [List.length_nil, List.nil_append, List.length_cons, Nat.zero_add, List.length_append, List.cons_append]
  refine w_ldA (ds := encStripe x0) (cs := encStripe x0) rfl (Nat.le_of_ble_eq_true rfl) rfl ?_
  rw [PR_call rfl (vcons (Vw_agg _ (flStripe _)) vnil) (copyStripeF n hn x0 hs)]
  obtain ⟨i, hi, hc⟩ := tyStripe
  rw [instT_agg, hi, Option.getD_some, hc, inst_stripe]
  obtain ⟨ii, jj, h1, h2, h3, h4⟩ := tySessS
  have hA1 : (instT ti0 E0.tp 3 26 (rowsC encSess x0.fL)).1 = .sl 3 0 x0.fL.length 9 := by
    show (instT ti0 E0.tp 3 26 (.ro x0.fL.length (x0.fL.map encSess).flatten)).1 = _
    simp only [instT, h1, Option.bind_some, h2, Option.getD_some, h3, h4]
  have hA2 := inst_nb (ti := ti0) (tp := E0.tp) (rowsC encSess x0.fL) 3 26
  have hnb : nbT (rowsC encSess x0.fL) = 1 + nbL (encL x0.fL) := rfl
  rw [hnb] at hA2
  have hA3 : ∀ b0 b1 b2 (X : List Blk), AtT ([b0, b1, b2] ++ (instT ti0 E0.tp 3 26 (rowsC encSess x0.fL)).2 ++ X) (.sl 3 0 x0.fL.length 9) 3 26 (rowsC encSess x0.fL) := fun b0 b1 b2 X => ⟨hA1.symm, by rw [hnb, List.length_append, List.length_append, hA2]; show 3 + _ ≤ 3 + _ + _; omega, Lies_in [b0, b1, b2] _ X⟩
  generalize hA : instT ti0 E0.tp 3 26 (rowsC encSess x0.fL) = A at hA1 hA2 hA3
  have hA' : instT ti0 E0.tp ([⟨encStripe x0, true, true⟩, ⟨[.sc (.string x1)], true, true⟩, ⟨[.sc (.int .i64 0), .nl], true, true⟩] : Heap).length 26 (rowsC encSess x0.fL) = A := hA
  simp only [hA', hA1]
  have hN : ([⟨encStripe x0, true, true⟩, ⟨[.sc (.string x1)], true, true⟩, ⟨[.sc (.int .i64 0), .nl], true, true⟩] ++ A.2 : Heap).length = 3 + A.2.length := by simp; omega
  have hcl : ∀ X : Heap, ([⟨encStripe x0, true, true⟩, ⟨[.sc (.string x1)], true, true⟩, ⟨[.sc (.int .i64 0), .nl], true, true⟩] ++ A.2 ++ X : Heap)[1]? = some ⟨[.sc (.string x1)], true, true⟩ := fun _ => rfl
  have hz2 : ∀ X : Heap, ([⟨encStripe x0, true, true⟩, ⟨[.sc (.string x1)], true, true⟩, ⟨[.sc (.int .i64 0), .nl], true, true⟩] ++ A.2 ++ X : Heap)[2]? = some ⟨zzStripe, true, true⟩ := fun _ => rfl
  have hA3' := hA3 ⟨encStripe x0, true, true⟩ ⟨[.sc (.string x1)], true, true⟩ ⟨[.sc (.int .i64 0), .nl], true, true⟩
  have hcons : (⟨encStripe x0, true, true⟩ :: ⟨[.sc (.string x1)], true, true⟩ :: ⟨[.sc (.int .i64 0), .nl], true, true⟩ :: A.2 : Heap) = [⟨encStripe x0, true, true⟩, ⟨[.sc (.string x1)], true, true⟩, ⟨[.sc (.int .i64 0), .nl], true, true⟩] ++ A.2 := rfl
  generalize ([⟨encStripe x0, true, true⟩, ⟨[.sc (.string x1)], true, true⟩, ⟨[.sc (.int .i64 0), .nl], true, true⟩] ++ A.2 : Heap) = G at hN hcl hz2 hA3' hcons ⊢
  rw [st_at 2 G.length 0 _ ⟨[.sc (.int .i64 0), .nl], true, true⟩ [.sc (.int .i64 x0.fHeld), .sl 3 0 x0.fL.length 9] _ _ (get_at G _ []) rfl rfl (Nat.le_of_ble_eq_true rfl) rfl]
  rw [set_at G ⟨[.sc (.int .i64 0), .nl], true, true⟩ _ []]
  have g5 : ∀ R : Heap, (G ++ ⟨[.sc (.int .i64 x0.fHeld), .sl 3 0 x0.fL.length 9], true, true⟩ :: R : Heap)[G.length]? = some ⟨[.sc (.int .i64 x0.fHeld), .sl 3 0 x0.fL.length 9], true, true⟩ := fun R => get_at G _ R
  refine w_fadr ?_
  refine w_ld (c := .sl 3 0 x0.fL.length 9) (g5 []) (Nat.le_of_ble_eq_true rfl) rfl ?_
  refine del_run (n + 3) (by omega) _ x1 x0.fL hs.1 (hA3' _) (hcl _) (by omega) _ fun H' kr Z ids q1 q2 q3 q4 q5 => ?_
  refine w_fadr ?_
  exact drop_fin (H := H') (i5 := G.length) (x := .sl 3 0 x0.fL.length 9) (by rw [q4 G.length (by simp) (by omega)]; exact g5 []) (by rw [q4 2 (by simp; omega) (by omega)]; exact hz2 _) q1 q2 q3 (by omega) (by omega) (by omega) (by omega)

/-- spec.DropSess. -/
theorem stri_fin {H : Heap} {io i2 i1 : Nat} {s : StripeV} {l : List SessV} {x : AV} {ids : List Nat} (h : StrI H io i2 i1 s x l.length (encL l) ids) :
    (pLoad true 2 (.ptr io 0) H fun t => pStore 2 (.ptr i2 0) t H fun H => pLoad true 2 (.ptr i2 0) H fun r0 => ownTree ti0 E0.tp 28 H r0) = some (.agg (encStripe { s with fL := l })) := by
  obtain ⟨l1, l2, l3⟩ := h.lt
  obtain ⟨z2, hz, hzl⟩ := h.hz
  have hx : isLeaf x = true := by
    rcases h.hs with ⟨rfl, _⟩ | ⟨id, raw, is, _, rfl, _⟩ <;> rfl
  refine w_ldA (ds := [.sc (.int .i64 s.fHeld), x]) h.ho (Nat.le_of_ble_eq_true rfl) rfl ?_
  have hc : cellsA (.agg [.sc (.int .i64 s.fHeld), x]) = some [.sc (.int .i64 s.fHeld), x] := by
    show (if (true && (isLeaf x && true)) = true then _ else none) = _
    rw [hx]
    rfl
  rw [st_at 2 i2 0 _ ⟨z2, true, true⟩ [.sc (.int .i64 s.fHeld), x] H _ hz hc rfl (by show 0 + 2 ≤ z2.length; omega) rfl]
  have hs : splice z2 0 [.sc (.int .i64 s.fHeld), x] = [.sc (.int .i64 s.fHeld), x] := by
    unfold splice
    rw [List.take_zero, List.nil_append, List.drop_of_length_le (by rw [hzl]; exact Nat.le_refl _), List.append_nil]
  simp only [hs]
  refine w_ldA (ds := [.sc (.int .i64 s.fHeld), x]) (cs := [.sc (.int .i64 s.fHeld), x]) (by rw [List.getElem?_set_self l2]) (Nat.le_of_ble_eq_true rfl) rfl ?_
  have e1 := (h.hs.frame (H' := H.set i2 ⟨[.sc (.int .i64 s.fHeld), x], true, true⟩) fun i hi => by rw [List.getElem?_set_ne (fun (e : i2 = i) => h.z1 (e ▸ hi))]).res tySessS
  obtain ⟨i, hi, hcy⟩ := tyStripe
  rw [ownTree, ownT_agg, hi, Option.bind_some, hcy]
  simp only [ctyStripe, ownL, ownT_sc, e1, Option.bind_some, List.nil_append, List.append_nil]
  rw [if_pos h.hs.nodup]
  rfl
theorem dropS_loop (n : Nat) (hn : 1048576 < n) (s : StripeV) (hs : smStripeC s) (c : ByteArray) (io i2 i1 : Nat) : ∀ (t pre : List SessV) (m : Nat) (x : AV) (H : Heap) (ids : List Nat), s.fL = pre ++ t → t.length < m → StrI H io i2 i1 s x (keep c pre).length (encL (keep c pre)) ids →
    f15_l0 (PR (n + 5) AV) (n + 5) (fun x H => ownTree ti0 E0.tp 28 H x) m (.sc (.string c)) (.ptr i1 0) (.ptr i2 0) (.ptr io 0) (.sc (.int .i64 pre.length)) H = some (.agg (encStripe (vDrop s c)))
  | [], pre, m + 1, x, H, ids, he, hm, hi => by
    rw [List.append_nil] at he
    show (PR (n + 5) AV).fadr _ _ _ = _
    simp only [PR_fadr, PR_load, PR_len, PR_bin, PR_cond, PR_store]
    refine w_fadr ?_
    refine w_ld (c := rowsC encSess s.fL) hi.src (Nat.le_of_ble_eq_true rfl) rfl ?_
    refine w_len ?_
    rw [lss_nat, cond_b, if_neg (by rw [he]; simp)]
    rw [vDrop, he]
    exact stri_fin hi
  | y :: t, pre, m + 1, x, H, ids, he, hm, hi => by
    have hlt : pre.length < s.fL.length := by rw [he]; simp
    have hy := hs.2 y (by rw [he]; simp)
    have hlen := hs.1
    have hkl : (keep c pre).length ≤ pre.length := List.length_filter_le ..
    have hkp : keep c (pre ++ [y]) = keep c pre ++ (if del c y then [] else [y]) := by
      rw [keep_app, keep_cons]
      rfl
    show (PR (n + 5) AV).fadr _ _ _ = _
    simp only [PR_fadr, PR_load, PR_len, PR_bin, PR_cond, PR_store, PR_iadr, PR_fill, PR_newSl, PR_app]
    refine w_fadr ?_
    refine w_ld (c := rowsC encSess s.fL) hi.src (Nat.le_of_ble_eq_true rfl) rfl ?_
    refine w_len ?_
    rw [lss_nat, cond_b, if_pos (by simpa using hlt)]
    refine w_fadr ?_
    refine w_ld (c := rowsC encSess s.fL) hi.src (Nat.le_of_ble_eq_true rfl) rfl ?_
    refine w_el lenSess (by decide) he ?_
    refine w_fadr_rp ?_
    refine w_ld_rp (c := .sc (.string y.fClient)) rfl ?_
    refine w_bin (v := .sc (.bool (!(del c y)))) (fun k => rfl) ?_
    cases hd : del c y
    · rw [hd] at hkp
      refine w_cT rfl ?_
      refine w_fadr ?_
      refine w_ld (c := x) hi.ho (Nat.le_of_ble_eq_true rfl) rfl ?_
      refine w_fadr ?_
      refine w_ld (c := rowsC encSess s.fL) hi.src (Nat.le_of_ble_eq_true rfl) rfl ?_
      refine w_el lenSess (by decide) he ?_
      refine w_ldA_rp (ds := encSess y) (Nat.le_of_ble_eq_true rfl) rfl ?_
      have hst := fun K h => agg_stepI (β := AV) (n := n + 5) (X0 := []) (z := zzSess) (bytes := 128) (K := K) (r := some (.agg (encStripe (vDrop s c)))) hi.hs rfl (vcons (Vw_agg _ (flSess y)) vnil) (l15CopyF n hn y hy) tySess (okWSess 3 y) (flSess y) (lenSess y) rfl (by omega) h
      simp only [List.append_nil] at hst
      refine hst _ fun x' H' ids' h1 h2 h3 h4 => ?_
      refine w_fadr ?_
      refine hi.put h1 h2 h3 fun H'' hi' => ?_
      rw [inc_nat _ _ (by omega)]
      have ih := dropS_loop n hn s hs c io i2 i1 t (pre ++ [y]) m x' H'' ids' (by rw [he]; simp) (by simpa using hm) (by
        rw [hkp]
        simp only [Bool.false_eq_true, if_false]
        rw [List.length_append, List.length_singleton, encL_app, encL_cons]
        simpa [encL] using hi')
      rw [List.length_append, List.length_singleton] at ih
      exact ih
    · rw [hd] at hkp
      refine w_cF rfl ?_
      rw [inc_nat _ _ (by omega)]
      have ih := dropS_loop n hn s hs c io i2 i1 t (pre ++ [y]) m x H ids (by rw [he]; simp) (by simpa using hm) (by
        rw [hkp]
        simpa using hi)
      rw [List.length_append, List.length_singleton] at ih
      exact ih
theorem specF_DropSess (n : Nat) (hn : 1048576 < n) (x0 : StripeV) (x1 : ByteArray) (k0 : okStripe x0) (k1 : okS x1) (b0 : wtStripe x0 ≤ 1048576) (b1 : x1.size ≤ 1048576) : tree E0 (n + 6) 28 15 [.agg (encStripe x0), .sc (.string x1)] = some (.agg (encStripe (vDrop x0 x1))) := by
  have hs := smC x0 b0
  rw [tree_def, f15_eq, f15]
  simp only [PR_box, PR_new, PR_fadr, PR_load, PR_fill, PR_store, pNew]
  rw [box_fl _ _ _ (flStripe x0)]
  simp only [List.length_nil, List.nil_append, List.length_cons, Nat.zero_add]
  have hH : ([⟨encStripe x0, true, true⟩] ++ [⟨[.sc (.int .i64 0), .nl], true, true⟩] : Heap)[0]? = some ⟨encStripe x0, true, true⟩ := rfl
  refine w_fadr ?_
  refine w_ld (c := .sc (.int .i64 x0.fHeld)) hH (Nat.le_of_ble_eq_true rfl) rfl ?_
  refine w_fill (cs := [.sc (.int .i64 x0.fHeld), .nl]) rfl ?_
  rw [show ([⟨encStripe x0, true, true⟩] ++ [⟨[.sc (.int .i64 0), .nl], true, true⟩] : Heap).length = 2 from rfl]
  rw [st_at 2 2 0 _ ⟨zzStripe, true, true⟩ [.sc (.int .i64 x0.fHeld), .nl] _ _ rfl rfl rfl (Nat.le_of_ble_eq_true rfl) rfl]
  exact dropS_loop n hn x0 hs x1 2 1 0 x0.fL [] (n + 5) .nl _ [] rfl (by have := hs.1; omega) (strI0 x0)
theorem keep_wt (c : ByteArray) : ∀ l : List SessV, wtL wtSess (keep c l) ≤ wtL wtSess l
  | [] => Nat.le_refl _
  | x :: l => by
    have ih := keep_wt c l
    rw [keep_cons]
    have e : wtL wtSess (x :: l) = 1 + wtSess x + wtL wtSess l := rfl
    split
    · omega
    · have e2 : wtL wtSess (x :: keep c l) = 1 + wtSess x + wtL wtSess (keep c l) := rfl
      omega
theorem drop_wt (x0 : StripeV) (x1 : ByteArray) (b0 : wtStripe x0 ≤ 1048576) : wtStripe (vDrop x0 x1) ≤ 1048576 := by
  have h := keep_wt x1 x0.fL
  show wtL wtSess (keep x1 x0.fL) + 0 ≤ _
  have : wtStripe x0 = wtL wtSess x0.fL + 0 := rfl
  omega
theorem resF_DropSess_0 (x0 : StripeV) (x1 : ByteArray) (b0 : wtStripe x0 ≤ 1048576) (b1 : x1.size ≤ 1048576) : wtStripe (vDrop x0 x1) ≤ 1048576 ∧ smStripe (vDrop x0 x1) := ⟨drop_wt x0 x1 b0, smwStripe _ (drop_wt x0 x1 b0)⟩

end Go.Proofs.Ytfpmccedangjoaa.Abs
