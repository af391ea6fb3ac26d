/- The law FnNext and its row: every input, no condition (written by laws.py). -/
import Derived.Test.YtejjggnchdldoaaMb
import Derived.Test.YtejjggnchdldoaaRows
import Derived.WalkKit
import Derived.ProofKit
import Derived.OpenShut
import Derived.ShutString
import Derived.ChangeOld
import Derived.Below
import Derived.SizedLaws
set_option linter.unusedVariables false
set_option linter.unusedSimpArgs false
namespace Go.Proofs.Ytejjggnchdldoaa.Abs
open Go
inductive Sel : List Ck → List Ck → Prop
 | nil {L : List Ck} : Sel L []
 | cons {L L1 L' : List Ck} {c : Ck} : Pk L c L1 → Sel L1 L' → Sel L (c :: L')
 | rest {L : List Ck} : Sel L L
 | skip {L L' : List Ck} {c : Ck} : Sel L L' → Sel (c :: L) L'
section
variable {β : Type} {n : Nat} {H : Heap} {L L' L1 L2 : List Ck} {G : Option β → Prop} {K : AV → Option β} {KH : AV → Heap → Option β}
theorem Sep.none (h : Sep H L) : Sep H [] := by
 induction L with
 | nil => exact h
 | cons c L ih => exact ih h.tail
theorem SepI.cons_iff {c : Ck} {I : List Nat} : SepI H (c :: L) I ↔ ∃ J R, I = J ++ R ∧ CkOk H c J ∧ SepI H L R := Iff.rfl
theorem Sel.sepI : ∀ {L L' : List Ck} {I : List Nat}, Sel L L' → SepI H L I → ∃ J X, SepI H L' J ∧ I.Perm (J ++ X)
 | _, _, I, .nil, h => ⟨[], I, rfl, List.Perm.refl _⟩
 | _, _, I, .rest, h => ⟨I, [], h, by simp⟩
 | _, _, I, .skip q, h => by
  obtain ⟨J, R, rfl, g1, g2⟩ := h
  obtain ⟨J', X, e1, e2⟩ := q.sepI g2
  refine ⟨J', J ++ X, e1, ?_⟩
  refine (List.Perm.append_left J e2).trans ?_
  rw [← List.append_assoc, ← List.append_assoc]
  exact List.Perm.append_right X List.perm_append_comm
 | _, _, I, .cons p q, h => by
  obtain ⟨J, R, g1, g2, g3⟩ := p.sepI h
  obtain ⟨J', X, e1, e2⟩ := q.sepI g2
  refine ⟨J ++ J', X, ⟨J, J', rfl, g1, e1⟩, ?_⟩
  rw [List.append_assoc]
  exact g3.trans (List.Perm.append_left J e2)
theorem Sep.sel (h : Sep H L) (q : Sel L L') : Sep H L' := by
 obtain ⟨I, h1, h2⟩ := h
 obtain ⟨J, X, g1, g2⟩ := q.sepI h1
 exact ⟨J, g1, (List.nodup_append.1 (g2.nodup_iff.1 h2)).1⟩
theorem g_apart {x off : Nat} {ts : List AV} {cs : List AV} {a : Bool} {m : Option β} (hs : Sep H L) (hp : Pk L (.blk x cs a) L1) (ht : ∀ y ∈ ts, ∃ j o ds b, y = .ptr j o ∧ ∃ L2, Pk L1 (.blk j ds b) L2) (h : Gd G m) : Gd G (pApart (.ptr x off) ts H m) := by
 have e : apartB (.ptr x off) ts H = true := by
  have hb := hs.blk hp
  simp only [apartB, hb, Bool.true_and, List.all_eq_true]
  intro y hy
  obtain ⟨j, o, ds, b, rfl, L2, hq⟩ := ht y hy
  obtain ⟨I, ⟨J, R, rfl, ⟨rfl, h1⟩, h2⟩, h3⟩ := hs.pick hp
  obtain ⟨J', R', ⟨rfl, g1⟩, g2, g3⟩ := hq.sepI h2
  have hne : x ≠ j := by
   rintro rfl
   have hn := (List.nodup_cons.1 h3).1
   exact hn (g3.symm.mem_iff.1 (by simp))
  simp [g1, hne]
 unfold pApart
 rw [if_pos e]
 exact h
theorem Gd.bothE {r a b : Option β} (h1 : Gd (· = r) a) (h2 : Gd (· = r) b) : Gd (· = r) (pBoth a b) := pBoth_eq h1 h2
theorem g_same {x o o' : Nat} {m : Option β} (h : Gd G m) : Gd G (pSame (.ptr x o) (.ptr x o') m) := by
 simp only [pSame, if_true]
 exact h
theorem g_iadr {α : Type} {w : Nat} {enc : α → List AV} {l pre t : List α} {x : α} {i : Int} (hi : i = (pre.length : Nat)) (hw : ∀ x, (enc x).length = w) (h0 : 0 < w) (hl : l = pre ++ x :: t) (h : Gd G (K (.rp (enc x ++ (t.map enc).flatten)))) : Gd G (pIadr w (rowsC enc l) (.sc (.int .i64 i)) fun t => K t) := by
 subst hl
 subst hi
 exact g_congr (el_ro hw h0 pre x t _) h
theorem g_iadrN {α : Type} {w : Nat} {enc : α → List AV} {l : List α} {i : Int} (hw : ∀ x, (enc x).length = w) (h0 : 0 < w) (hi : 0 ≤ i) (hl : i < (l.length : Nat)) (h : ∀ x rest, l[i.toNat]? = some x → Gd G (K (.rp (enc x ++ rest)))) : Gd G (pIadr w (rowsC enc l) (.sc (.int .i64 i)) fun t => K t) := by
 have hlt : i.toNat < l.length := by omega
 refine g_iadr (pre := l.take i.toNat) (x := l[i.toNat]) (t := l.drop (i.toNat + 1)) (by simp; omega) hw h0 ?_ (h _ _ (List.getElem?_eq_getElem hlt))
 rw [← List.drop_eq_getElem_cons hlt, List.take_append_drop]
theorem ints_iadr {l pre t : List Int} {x i : Int} (hi : i = (pre.length : Nat)) (hl : l = pre ++ x :: t) (h : Gd G (K (.rp (encI x ++ (t.map encI).flatten)))) : Gd G (pIadr 1 (intsC l) (.sc (.int .i64 i)) fun t => K t) := by
 rw [ints_rows]
 exact g_iadr hi (fun _ => rfl) (by decide) hl h
theorem strs_iadr {l pre t : List ByteArray} {x : ByteArray} {i : Int} (hi : i = (pre.length : Nat)) (hl : l = pre ++ x :: t) (h : Gd G (K (.rp (encS x ++ (t.map encS).flatten)))) : Gd G (pIadr 1 (strsC l) (.sc (.int .i64 i)) fun t => K t) := by
 rw [strs_rows]
 exact g_iadr hi (fun _ => rfl) (by decide) hl h
def bAt (s : ByteArray) (i : Int) : Int := ((s.data.toList.getD i.toNat 0).toNat : Nat)
theorem bAt_range (s : ByteArray) (i : Int) : 0 ≤ bAt s i ∧ bAt s i < 256 := by
 have := (s.data.toList.getD i.toNat 0).toNat_lt
 unfold bAt
 omega
theorem g_iadrB {s : ByteArray} {i : Int} (h0 : 0 ≤ i) (h1 : i < (s.size : Nat)) (h : ∀ rest, Gd G (K (.rp (.sc (.int .u8 (bAt s i)) :: rest)))) : Gd G (pIadr 1 (bytesC s) (.sc (.int .i64 i)) fun t => K t) := by
 have hlt : i.toNat < s.size := by omega
 have e : (bytesAV s).drop (i.toNat * 1) = .sc (.int .u8 (bAt s i)) :: (bytesAV s).drop (i.toNat + 1) := by
  rw [Nat.mul_one, List.drop_eq_getElem_cons (by rw [bytesAV_len]; omega)]
  congr 1
  simp [bytesAV, bAt, List.getD_eq_getElem?_getD, hlt]
 have e2 : (.sc (.int .i64 i) : AV) = .sc (.int .i64 (i.toNat : Nat)) := by
  rw [Int.toNat_of_nonneg h0]
 rw [e2]
 refine g_congr (iadr_ro 1 s.size (bytesAV s) i.toNat _ hlt (by rw [bytesAV_len]; omega)) ?_
 rw [e]
 exact h _
theorem rows_app {α : Type} {enc : α → List AV} (l q : List α) : rowsC enc (l ++ q) = .ro (l.length + q.length) ((l.map enc).flatten ++ (q.map enc).flatten) := by
 show AV.ro _ _ = _
 rw [List.length_append, List.map_append, List.flatten_append]
theorem g_appR {α : Type} {enc : α → List AV} {sz bytes ty : Nat} {cty : List Nat} {x : AV} {l : List α} {i : Nat} {raw cb : List AV} {a : Bool} {e : α} {L3 : List Ck} (hs : Sep H L) (hty : ∃ i j, ti0 ty = some i ∧ ti0 i.elem = some j ∧ j.size = sz ∧ j.cty = cty) (hx : Pk L (.own x ty (rowsC enc l)) L1) (hp : Pk L1 (.blk i raw a) L2) (hl : raw.length = sz) (hf : raw.all isLeaf = true) (hr : OwnR L2 raw cty cb L3) (hok : okLW (okW ti0 E0.tp 5) cty cb) (he : cb = enc e) (hb : (l.length + 1) * bytes ≤ 140737488355328)
  (h : ∀ x' H', isLeaf x' = true → Sep H' (.own x' ty (rowsC enc (l ++ [e])) :: L3) → Gd G (KH x' H')) : Gd G (pApp sz bytes x (.sl i 0 1 sz) H fun x H => KH x H) := by
 have e1 : (List.replicate 1 cty).flatten = cty := by simp
 refine g_app hs hty hx (src_blk hp (by omega) hf (by rw [e1]; exact hr) (by rw [e1]; exact hok)) (by rw [e1]; exact hok) hb fun x' H' lx hs' => h x' H' lx ?_
 rw [rows_app]
 simpa [he] using hs'
theorem g_appI1 {ty : Nat} {cty : List Nat} {x : AV} {l : List Int} {i : Nat} {z : Int} {a : Bool} (hs : Sep H L) (hx : Pk L (.own x ty (intsC l)) L1) (hp : Pk L1 (.blk i [.sc (.int .i64 z)] a) L2) (hty : ∃ i j, ti0 ty = some i ∧ ti0 i.elem = some j ∧ j.size = 1 ∧ j.cty = cty) (hc : cty.length = 1) (hb : (l.length + 1) * 8 ≤ 140737488355328)
  (h : ∀ x' H', isLeaf x' = true → Sep H' (.own x' ty (intsC (l ++ [z])) :: L2) → Gd G (KH x' H')) : Gd G (pApp 1 8 x (.sl i 0 1 1) H fun x H => KH x H) := by
 obtain ⟨c, rfl⟩ := List.length_eq_one_iff.1 hc
 rw [ints_rows] at hx h
 exact g_appR hs hty hx hp rfl rfl (.sc .nil) ⟨trivial, trivial⟩ rfl hb h
theorem g_appS1 {ty : Nat} {cty : List Nat} {x : AV} {l : List ByteArray} {i : Nat} {z : ByteArray} {a : Bool} (hs : Sep H L) (hx : Pk L (.own x ty (strsC l)) L1) (hp : Pk L1 (.blk i [.sc (.string z)] a) L2) (hty : ∃ i j, ti0 ty = some i ∧ ti0 i.elem = some j ∧ j.size = 1 ∧ j.cty = cty) (hc : cty.length = 1) (hb : (l.length + 1) * 16 ≤ 140737488355328)
  (h : ∀ x' H', isLeaf x' = true → Sep H' (.own x' ty (strsC (l ++ [z])) :: L2) → Gd G (KH x' H')) : Gd G (pApp 1 16 x (.sl i 0 1 1) H fun x H => KH x H) := by
 obtain ⟨c, rfl⟩ := List.length_eq_one_iff.1 hc
 rw [strs_rows] at hx h
 exact g_appR hs hty hx hp rfl rfl (.sc .nil) ⟨trivial, trivial⟩ rfl hb h
theorem ownL_at {f : Nat → AV → Option (AV × List Nat)} : ∀ {ts : List Nat} {xs cells : List AV} {I : List Nat} {k ty : Nat} {y t : AV}, ownL f ts xs = some (cells, I) → xs[k]? = some y → ts[k]? = some ty → cells[k]? = some t → ∃ J, f ty y = some (t, J) ∧ ∀ i ∈ J, i ∈ I
 | ts, [], cells, I, k, ty, y, t, h, hy, _, _ => by simp at hy
 | [], _ :: _, _, _, _, _, _, _, h, _, _, _ => by simp [ownL] at h
 | t0 :: ts, x :: xs, cells, I, k, ty, y, t, h, hy, ht, hc => by
  obtain ⟨a, b, h1, h2, e⟩ := ownL_cons h
  cases e
  cases k with
  | zero =>
   simp only [List.getElem?_cons_zero, Option.some.injEq] at hy ht hc
   subst hy
   subst ht
   subst hc
   exact ⟨a.2, h1, fun i hi => List.mem_append_left _ hi⟩
  | succ k =>
   obtain ⟨J, g1, g2⟩ := ownL_at (cells := b.1) (I := b.2) h2 (by simpa using hy) (by simpa using ht) (by simpa using hc)
   exact ⟨J, g1, fun i hi => List.mem_append_right _ (g2 i hi)⟩
theorem g_appRK {α : Type} {enc : α → List AV} {sz bytes ty : Nat} {cty : List Nat} {x : AV} {l : List α} {i k ty' : Nat} {y t' : AV} {raw cb : List AV} {a : Bool} {e : α} {L3 : List Ck} (hs : Sep H L) (hty : ∃ i j, ti0 ty = some i ∧ ti0 i.elem = some j ∧ j.size = sz ∧ j.cty = cty) (hx : Pk L (.own x ty (rowsC enc l)) L1) (hp : Pk L1 (.blk i raw a) L2) (hl : raw.length = sz) (hf : raw.all isLeaf = true) (hr : OwnR L2 raw cty cb L3) (hok : okLW (okW ti0 E0.tp 5) cty cb) (he : cb = enc e) (hb : (l.length + 1) * bytes ≤ 140737488355328)
  (hw : ∀ x, (enc x).length = sz) (hc : cty.length = sz) (hk : raw[k]? = some y) (hk2 : cty[k]? = some ty') (hk3 : cb[k]? = some t') (hok5 : okW ti0 E0.tp 6 ty' t')
  (h : ∀ x' H', isLeaf x' = true → Sep H' (.shr x' ty (rowsC enc (l ++ [e])) y ty' t' :: L3) → Gd G (KH x' H')) : Gd G (pApp sz bytes x (.sl i 0 1 sz) H fun x H => KH x H) := by
 have e1 : (List.replicate 1 cty).flatten = cty := by simp
 have hblk := (hs.pick hx).tail.blk hp
 obtain ⟨ti, tj, t1, t2, t3, t4⟩ := hty
 refine g_appX hs ⟨ti, tj, t1, t2, t3, t4⟩ hx (src_blk hp (by omega) hf (by rw [e1]; exact hr) (by rw [e1]; exact hok)) (by rw [e1]; exact hok) hb fun x' H' lx hs' ⟨id, cx, cy, q1, q2, q3, q4⟩ => h x' H' lx ?_
 have hcy : cy = raw := by
  have : content H sz (.sl i 0 1 sz) = some raw := by
   show (if sz = sz then rdCells H i 0 (1 * sz) else none) = _
   simp only [if_true, rdCells, hblk, Nat.one_mul, Nat.zero_add, List.drop_zero, ← hl, Nat.le_refl, List.take_length]
  rw [this] at q3
  exact (Option.some.inj q3).symm
 subst hcy
 obtain ⟨I, ⟨J, R, rfl, ⟨h0, h1, h2⟩, h3⟩, h4⟩ := hs'
 have hrow : AV.ro (l.length + 1) ((l.map enc).flatten ++ cb) = rowsC enc (l ++ [e]) := by
  rw [rows_app]
  simp [he]
 rw [hrow] at h1 h2
 refine ⟨J ++ R, ⟨J, R, rfl, ⟨⟨h0, h1, h2⟩, hok5, ?_⟩, h3⟩, h4⟩
 rw [← hrow] at h2
 rcases own_raw t1 t2 h2 with ⟨rfl, _⟩ | ⟨id', off, raw', J', b, p1, p2, p3, p4, p5, p6, p7⟩
 ·cases q1
 ·rw [q1] at p1
  cases p1
  rw [q2] at p3
  cases p3
  have hraw : raw' = cx ++ cy := by
   have hlen : (cx ++ cy).length = (l.length + 1) * tj.size := by rw [List.length_append, q4, hl, t3, Nat.add_mul, Nat.one_mul]
   simp only [rdCells, q2, if_true, Nat.zero_add, List.drop_zero] at p6
   rw [if_pos (by rw [hlen]; exact Nat.le_refl _), ← hlen, List.take_length] at p6
   exact (Option.some.inj p6).symm
  subst hraw
  have hlk : k < cy.length := (List.getElem?_eq_some_iff.1 hk).1
  obtain ⟨J2, g1, g2⟩ := ownL_at (k := l.length * tj.size + k) (ty := ty') (y := y) (t := t') p7 (by
   rw [List.getElem?_append_right (by omega), q4, Nat.add_sub_cancel_left]
   exact hk) (by
   rw [List.replicate_succ', List.flatten_append, List.getElem?_append_right (by simp [t4, hc])]
   simp [t4, hc, hk2]) (by
   have hlr := rows_len hw l
   rw [List.getElem?_append_right (by omega), hlr, Nat.add_sub_cancel_left]
   exact hk3)
  exact ⟨J2, own_dep 5 6 ty' y t' J2 g1 hok5, fun z hz => by rw [p2]; exact List.mem_cons_of_mem _ (g2 z hz)⟩
theorem g_appS {α : Type} {enc : α → List AV} {sz bytes ty : Nat} {cty : List Nat} {x y : AV} {l q : List α} (hs : Sep H L) (hty : ∃ i j, ti0 ty = some i ∧ ti0 i.elem = some j ∧ j.size = sz ∧ j.cty = cty) (hx : Pk L (.own x ty (rowsC enc l)) L1) (hy : Src H L1 sz cty y q.length (q.map enc).flatten L2) (hok : okLW (okW ti0 E0.tp 5) (List.replicate q.length cty).flatten (q.map enc).flatten) (hb : (l.length + q.length) * bytes ≤ 140737488355328)
  (h : ∀ x' H', isLeaf x' = true → Sep H' (.own x' ty (rowsC enc (l ++ q)) :: L2) → Gd G (KH x' H')) : Gd G (pApp sz bytes x y H fun x H => KH x H) := by
 refine g_app hs hty hx hy hok hb fun x' H' lx hs' => h x' H' lx ?_
 rw [rows_app]
 exact hs'
theorem g_appN {sz bytes m ty : Nat} {cty : List Nat} {y : AV} {cb : List AV} (hs : Sep H L) (hty : ∃ i j, ti0 ty = some i ∧ ti0 i.elem = some j ∧ j.size = sz ∧ j.cty = cty) (hy : Src H L sz cty y m cb L2) (hok : okLW (okW ti0 E0.tp 5) (List.replicate m cty).flatten cb) (hb : m * bytes ≤ 140737488355328)
  (h : ∀ x' H', isLeaf x' = true → Sep H' (.own x' ty (.ro m cb) :: L2) → Gd G (KH x' H')) : Gd G (pApp sz bytes .nl y H fun x H => KH x H) := by
 obtain ⟨i, j, e1, e2, e3, e4⟩ := hty
 refine g_app (hs.nl (ty := ty) ⟨i, j, e1, e2⟩) ⟨i, j, e1, e2, e3, e4⟩ .here hy hok (by rw [Nat.zero_add]; exact hb) fun x' H' lx hs' => h x' H' lx ?_
 rw [Nat.zero_add, List.nil_append] at hs'
 exact hs'
theorem okLW_scs {d : Nat} : ∀ {ts : List Nat} {l : List AV}, ts.length = l.length → l.all isSc = true → okLW (okW ti0 E0.tp (d + 1)) ts l
 | [], [], _, _ => trivial
 | t :: ts, x :: l, h, hl => by
  rw [List.all_cons, Bool.and_eq_true] at hl
  refine ⟨?_, okLW_scs (by simpa using h) hl.2⟩
  cases x with
  | sc v => trivial
  | _ => simp [isSc] at hl
 | [], _ :: _, h, _ => by simp at h
 | _ :: _, [], h, _ => by simp at h
theorem sc_bytes (s : ByteArray) : (bytesAV s).all isSc = true := by
 simp only [bytesAV, List.all_map, List.all_eq_true]
 intro b _
 rfl
theorem sc_ints (l : List Int) : (l.map fun z => AV.sc (.int .i64 z)).all isSc = true := by
 simp only [List.all_map, List.all_eq_true]
 intro b _
 rfl
theorem sc_strs (l : List ByteArray) : (l.map fun z => AV.sc (.string z)).all isSc = true := by
 simp only [List.all_map, List.all_eq_true]
 intro b _
 rfl
theorem sc_rows {α : Type} {enc : α → List AV} (hf : ∀ x, (enc x).all isSc = true) (l : List α) : ((l.map enc).flatten).all isSc = true := by
 rw [List.all_flatten, List.all_map, List.all_eq_true]
 intro x _
 exact hf x
theorem len_rep {cty : List Nat} {w m : Nat} (h : cty.length = w) : ((List.replicate m cty).flatten).length = m * w := by simp [h]
theorem g_copyB {s : ByteArray} (hs : Sep H L) (hb : s.size ≤ 140737488355328) (h : ∀ x' H', isLeaf x' = true → Sep H' (.own x' 34 (bytesC s) :: L) → Gd G (KH x' H')) : Gd G (pApp 1 1 .nl (bytesC s) H fun x H => KH x H) :=
 g_appN hs ⟨_, _, rfl, rfl, rfl, rfl⟩ (src_ro rfl (by rw [bytesAV_len]; omega) (sc_bytes s)) (okLW_scs (by rw [len_rep (w := 1) rfl, bytesAV_len, Nat.mul_one]) (sc_bytes s)) (by omega) h
theorem g_copyF {α : Type} {enc : α → List AV} {w bytes ty : Nat} {cty : List Nat} {l : List α} (hs : Sep H L) (hty : ∃ i j, ti0 ty = some i ∧ ti0 i.elem = some j ∧ j.size = w ∧ j.cty = cty) (hc : cty.length = w) (hw : ∀ x, (enc x).length = w) (hf : ∀ x, (enc x).all isSc = true) (hb : l.length * bytes ≤ 140737488355328) (h : ∀ x' H', isLeaf x' = true → Sep H' (.own x' ty (rowsC enc l) :: L) → Gd G (KH x' H')) : Gd G (pApp w bytes .nl (rowsC enc l) H fun x H => KH x H) :=
 g_appN hs hty (src_ro hc (rows_len hw l) (sc_rows hf l)) (okLW_scs (by rw [len_rep hc, rows_len hw]) (sc_rows hf l)) hb h
theorem g_copyI {ty : Nat} {cty : List Nat} {l : List Int} (hs : Sep H L) (hty : ∃ i j, ti0 ty = some i ∧ ti0 i.elem = some j ∧ j.size = 1 ∧ j.cty = cty) (hc : cty.length = 1) (hb : l.length * 8 ≤ 140737488355328) (h : ∀ x' H', isLeaf x' = true → Sep H' (.own x' ty (intsC l) :: L) → Gd G (KH x' H')) : Gd G (pApp 1 8 .nl (intsC l) H fun x H => KH x H) := by
 rw [ints_rows] at h ⊢
 exact g_copyF hs hty hc (fun _ => rfl) (fun _ => rfl) hb h
theorem g_copyS {ty : Nat} {cty : List Nat} {l : List ByteArray} (hs : Sep H L) (hty : ∃ i j, ti0 ty = some i ∧ ti0 i.elem = some j ∧ j.size = 1 ∧ j.cty = cty) (hc : cty.length = 1) (hb : l.length * 16 ≤ 140737488355328) (h : ∀ x' H', isLeaf x' = true → Sep H' (.own x' ty (strsC l) :: L) → Gd G (KH x' H')) : Gd G (pApp 1 16 .nl (strsC l) H fun x H => KH x H) := by
 rw [strs_rows] at h ⊢
 exact g_copyF hs hty hc (fun _ => rfl) (fun _ => rfl) hb h
end
end Go.Proofs.Ytejjggnchdldoaa.Abs
set_option linter.unusedVariables false
set_option linter.unusedSimpArgs false
namespace Go.Proofs.Ytejjggnchdldoaa.Abs
open Go
section
variable {β : Type} {n : Nat} {H : Heap} {L L' L1 L2 : List Ck} {G : Option β → Prop} {K : AV → Option β} {KH : AV → Heap → Option β}
theorem ownL_scE {d : Nat} : ∀ {ts : List Nat} {xs cells : List AV} {I : List Nat}, ownL (ownT ti0 E0.tp H d) ts xs = some (cells, I) → cells.all isSc = true → xs = cells ∧ I = []
 | ts, [], cells, I, h, _ => by
  obtain ⟨_, e⟩ := ownL_nil h
  cases e
  exact ⟨rfl, rfl⟩
 | [], _ :: _, _, _, h, _ => by simp [ownL] at h
 | t :: ts, x :: xs, cells, I, h, hs => by
  obtain ⟨a, b, h1, h2, e⟩ := ownL_cons h
  cases e
  rw [List.all_cons, Bool.and_eq_true] at hs
  obtain ⟨rfl, e2⟩ := ownL_scE h2 hs.2
  have hx : x = a.1 ∧ a.2 = [] := by
   obtain ⟨a1, a2⟩ := a
   cases a1 with
   | sc v =>
    have := own_sc h1
    subst this
    cases d with
    | zero => simp [ownT] at h1
    | succ d =>
     have : (AV.sc v, ([] : List Nat)) = (.sc v, a2) := Option.some.inj h1
     cases this
     exact ⟨rfl, rfl⟩
   | _ => simp [isSc] at hs
  refine ⟨by rw [hx.1], by rw [hx.2, e2]; rfl⟩
theorem ownL_scsE {d : Nat} : ∀ {ts : List Nat} {l : List AV}, ts.length = l.length → l.all isSc = true → ownL (ownT ti0 E0.tp H (d + 1)) ts l = some (l, [])
 | [], [], _, _ => rfl
 | t :: ts, x :: l, h, hl => by
  rw [List.all_cons, Bool.and_eq_true] at hl
  cases x with
  | sc v =>
   rw [ownL, ownT_sc, Option.bind_some, ownL_scsE (by simpa using h) hl.2]
   rfl
  | _ => simp [isSc] at hl
 | [], _ :: _, h, _ => by simp at h
 | _ :: _, [], h, _ => by simp at h
theorem Sep.openR {sz m ty : Nat} {x : AV} {cells : List AV} (hs : Sep H L) (hty : ∃ i j, ti0 ty = some i ∧ ti0 i.elem = some j ∧ j.size = sz) (hp : Pk L (.own x ty (.ro m cells)) L1) (hf : cells.all isSc = true) :
  (x = .nl ∧ m = 0 ∧ cells = []) ∨ ∃ id pre post, x = .sl id pre.length m sz ∧ cells.length = m * sz ∧ Sep H (.blk id (pre ++ (cells ++ post)) true :: L1) := by
 obtain ⟨i, j, e1, e2, rfl⟩ := hty
 obtain ⟨I, ⟨J, R, rfl, ⟨_, _, h1⟩, h2⟩, h3⟩ := hs.pick hp
 rcases own_raw e1 e2 h1 with ⟨rfl, rfl, rfl, rfl⟩ | ⟨id, off, raw, J', b, rfl, rfl, hb, hlv, ha, h4, h5⟩
 ·exact .inl ⟨rfl, rfl, rfl⟩
 ·obtain ⟨rfl, rfl⟩ := ownL_scE h5 hf
  obtain ⟨hl, b', hb', _, hle, hc⟩ := rd_live h4
  rw [hb] at hb'
  cases hb'
  have e : b.cells = b.cells.take off ++ (raw ++ b.cells.drop (off + m * j.size)) := by
   rw [hc, ← List.drop_drop, List.take_append_drop, List.take_append_drop]
  have ho : (b.cells.take off).length = off := by rw [List.length_take]; omega
  refine .inr ⟨id, b.cells.take off, b.cells.drop (off + m * j.size), by rw [ho], hl, ?_⟩
  refine ⟨[id] ++ R, ⟨[id], R, rfl, ⟨rfl, ?_⟩, h2⟩, h3⟩
  rw [hb, ← e]
  obtain ⟨c, l, a⟩ := b
  cases hlv
  cases ha
  rfl
theorem Sep.closeR {sz m ty id : Nat} {pre cells post : List AV} (hty : ∃ i j, ti0 ty = some i ∧ ti0 i.elem = some j ∧ j.size = sz ∧ j.cty.length = sz) (hs : Sep H (.blk id (pre ++ (cells ++ post)) true :: L)) (hf : cells.all isSc = true) (hl : cells.length = m * sz) : Sep H (.own (.sl id pre.length m sz) ty (.ro m cells) :: L) := by
 obtain ⟨i, j, e1, e2, rfl, e4⟩ := hty
 obtain ⟨I, ⟨J, R, rfl, ⟨rfl, h1⟩, h2⟩, h3⟩ := hs
 have hlen : ((List.replicate m j.cty).flatten).length = cells.length := by simp [e4, hl]
 refine ⟨[id] ++ R, ⟨[id], R, rfl, ⟨rfl, ⟨i, j, e1, e2, hl, okLW_scs hlen hf⟩, ?_⟩, h2⟩, h3⟩
 rw [ownT_sl]
 have ha : isApp H id = true := by simp only [isApp, h1]
 have hrd : rdCells H id pre.length (m * j.size) = some cells := by
  simp only [rdCells, h1, if_true]
  rw [if_pos (by simp only [List.length_append]; omega), List.drop_left', ← hl, List.take_left']
  ·rfl
  ·rfl
 simp only [e1, e2, Option.bind_some, if_true, ha, hrd, ownL_scsE (d := 4) hlen hf]
theorem g_iadrS {w m o d : Nat} {z : Int} {K : AV → Option β} (h0 : 0 ≤ z) (h1 : z < m) (hk : Gd G (K (.ptr d (o + z.toNat * w)))) : Gd G (pIadr w (.sl d o m w) (.sc (.int .i64 z)) fun t => K t) := by
 have e := iadr_sl w m d o z.toNat (fun t => K t) (by omega)
 rw [show ((z.toNat : Nat) : Int) = z by omega] at e
 exact g_congr e hk
end
end Go.Proofs.Ytejjggnchdldoaa.Abs
set_option linter.unusedVariables false
set_option linter.unusedSimpArgs false
namespace Go.Proofs.Ytejjggnchdldoaa.Abs
open Go
section
variable {β : Type} {n : Nat} {H : Heap} {L L' L1 L2 : List Ck} {G : Option β → Prop} {K : AV → Option β} {KH : AV → Heap → Option β}
theorem ownL_len2 {f : Nat → AV → Option (AV × List Nat)} : ∀ {ts : List Nat} {xs cells : List AV} {I : List Nat}, ownL f ts xs = some (cells, I) → xs.length = cells.length
 | ts, [], cells, I, h => by
  obtain ⟨_, e⟩ := ownL_nil h
  cases e
  rfl
 | [], _ :: _, _, _, h => by simp [ownL] at h
 | t :: ts, x :: xs, cells, I, h => by
  obtain ⟨a, b, h1, h2, e⟩ := ownL_cons h
  cases e
  rw [List.length_cons, List.length_cons, ownL_len2 h2]
theorem ownL_scAt {d : Nat} : ∀ {ts : List Nat} {xs cells : List AV} {I : List Nat} {k : Nat} {v : Value}, ownL (ownT ti0 E0.tp H d) ts xs = some (cells, I) → cells[k]? = some (.sc v) → xs[k]? = some (.sc v)
 | ts, [], cells, I, k, v, h, hk => by
  obtain ⟨_, e⟩ := ownL_nil h
  cases e
  simp at hk
 | [], _ :: _, _, _, _, _, h, _ => by simp [ownL] at h
 | t :: ts, x :: xs, cells, I, k, v, h, hk => by
  obtain ⟨a, b, h1, h2, e⟩ := ownL_cons h
  cases e
  cases k with
  | zero =>
   obtain ⟨a1, a2⟩ := a
   have : a1 = .sc v := by simpa using hk
   subst this
   rw [own_sc h1]
   rfl
  | succ k => simpa using ownL_scAt h2 (by simpa using hk)
theorem g_iadrO {sz m ty : Nat} {x : AV} {cells : List AV} {i : Int} (hs : Sep H L) (hty : ∃ i j, ti0 ty = some i ∧ ti0 i.elem = some j ∧ j.size = sz) (hp : Pk L (.own x ty (.ro m cells)) L1) (h0 : 0 ≤ i) (h1 : i < (m : Nat))
  (h : ∀ id off, (∀ k v, k < sz → cells[i.toNat * sz + k]? = some (.sc v) → rdCells H id (off + k) 1 = some [.sc v]) → Gd G (K (.ptr id off))) : Gd G (pIadr sz x (.sc (.int .i64 i)) fun t => K t) := by
 obtain ⟨ti, tj, e1, e2, rfl⟩ := hty
 obtain ⟨_, _, I, e, _⟩ := hs.own hp
 rcases own_raw e1 e2 e with ⟨rfl, rfl, rfl, rfl⟩ | ⟨id, off, raw, J', b, rfl, rfl, hb, hlv, ha, h4, h5⟩
 ·exact absurd h1 (by simp; omega)
 ·refine g_iadrS h0 h1 ?_
  refine h _ _ fun k v hk hc => ?_
  obtain ⟨hl, b', hb', _, hle, hcs⟩ := rd_live h4
  rw [hb] at hb'
  cases hb'
  have hr := ownL_scAt h5 hc
  have hlt := (List.getElem?_eq_some_iff.1 hr).1
  rw [hl] at hlt
  have hg : b.cells[off + i.toNat * tj.size + k]? = some (.sc v) := by
   rw [hcs, List.getElem?_take_of_lt hlt, List.getElem?_drop] at hr
   rw [← hr]
   congr 1
   omega
  obtain ⟨hlt2, he⟩ := List.getElem?_eq_some_iff.1 hg
  simp only [rdCells, hb, hlv, if_true]
  rw [if_pos (by omega), List.drop_eq_getElem_cons hlt2, he]
  rfl
theorem g_ldH {id o : Nat} {c : AV} (e : rdCells H id o 1 = some [c]) (h : Gd G (K c)) : Gd G (pLoad false 1 (.ptr id o) H fun x => K x) := g_congr (ldF e _) h
end
end Go.Proofs.Ytejjggnchdldoaa.Abs
set_option linter.unusedVariables false
set_option linter.unusedSimpArgs false
set_option maxRecDepth 100000
namespace Go.Proofs.Ytejjggnchdldoaa.Abs
open Go
section
variable {β : Type} {n : Nat} {H : Heap} {L L' L1 L2 : List Ck} {G : Option β → Prop} {K : AV → Option β} {KH : AV → Heap → Option β} {c : Nat} {code : ByteArray} {i : Nat} {h : Int}
abbrev Cr (c : Nat) (code : ByteArray) (i : Nat) (h : Int) : Ck := .blk c (cur code i h) true
theorem curAt (s : Sep H L) (p : Pk L (Cr c code i h) L1) : H[c]? = some (curB code i h) := s.blk p
theorem byteK {ty : Nat} (hs : code.size ≤ 1048576) (s : Sep H L) (p : Pk L (Cr c code i h) L1)
  (hk : ∀ (x : Int) (i' : Nat) (h' : Int) (H' : Heap), 0 ≤ x ∧ x < 256 → Sep H' (Cr c code i' h' :: L1) → Gd G (KH (.sc (.int .i64 x)) H')) :
  Gd G ((PR (n + 1) β).call ty (.fn 60 [] []) [.ptr c 0] H fun x H => KH x H) := by
 obtain ⟨x, i', h', hx, hr⟩ := byte_run (β := β) (n := n) c code hs i h (curAt s p) ty
 rw [hr]
 exact hk x i' h' _ (by omega) (s.put p (cur code i' h') true)
theorem belowK {ty : Nat} {m : Int} (hs : code.size ≤ 1048576) (hm : m ≤ 4294967296) (s : Sep H L) (p : Pk L (Cr c code i h) L1)
  (hk : ∀ (x : Int) (i' : Nat) (h' : Int) (H' : Heap), 0 ≤ x ∧ (0 < m → x < m) ∧ (m ≤ 0 → x = 0) → Sep H' (Cr c code i' h' :: L1) → Gd G (KH (.sc (.int .i64 x)) H')) :
  Gd G ((PR (n + 2) β).call ty (.fn 36 [] []) [.ptr c 0, .sc (.int .i64 m)] H fun x H => KH x H) := by
 by_cases h0 : m ≤ 0
 ·rw [PR_hmD rfl rfl, f36_eq, f36]
  simp only [PR_bin, PR_cond]
  refine g_leq ?_
  refine g_cT (by simp; omega) ?_
  exact hk 0 i h H ⟨by omega, by omega, fun _ => rfl⟩ (s.pick p)
 ·by_cases h1 : m ≤ 256
  ·obtain ⟨x, i', h', hx, hr⟩ := below_run (β := β) (n := n) c code hs i h (curAt s p) ty m.toNat (by omega) (by omega)
   rw [show ((m.toNat : Nat) : Int) = m by omega] at hr
   rw [hr]
   exact hk x i' h' _ ⟨by omega, by omega, by omega⟩ (s.put p (cur code i' h') true)
  ·rw [PR_hmD rfl rfl, f36_eq, f36]
   simp only [PR_bin, PR_cond]
   refine g_leq ?_
   refine g_cF (by simp; omega) ?_
   refine g_leq ?_
   refine g_cF (by simp; omega) ?_
   refine byteK hs s p fun x i1 k1 H1 hx s1 => ?_
   refine byteK hs s1 .here fun y i2 k2 H2 hy s2 => ?_
   refine byteK hs s2 .here fun z i3 k3 H3 hz s3 => ?_
   refine g_mul (by omega) (by omega) ?_
   refine g_mul (by omega) (by omega) ?_
   refine g_add (by omega) (by omega) ?_
   refine g_add (by omega) (by omega) ?_
   refine g_bin (v := .sc (.int .i64 ((x * 65536 + y * 256 + z).tmod m))) (fun k => ?_) ?_
   ·show (binI .rem .i64 (x * 65536 + y * 256 + z) m).bind (fun v => k (.sc v)) = _
    have e : binI .rem .i64 (x * 65536 + y * 256 + z) m = some (.int .i64 ((x * 65536 + y * 256 + z).tmod m)) := by
     show (if m = 0 then none else some (Value.int .i64 ((x * 65536 + y * 256 + z).tmod m))) = _
     rw [if_neg (by omega)]
    rw [e]
    rfl
   have hnn : 0 ≤ x * 65536 + y * 256 + z := by omega
   have e := Int.tmod_eq_emod_of_nonneg (b := m) hnn
   have e1 := Int.emod_nonneg (x * 65536 + y * 256 + z) (show m ≠ 0 by omega)
   have e2 := Int.emod_lt_of_pos (x * 65536 + y * 256 + z) (show 0 < m by omega)
   exact hk _ i3 k3 H3 ⟨by rw [e]; exact e1, fun _ => by rw [e]; exact e2, by omega⟩ s3
theorem intK {ty d m : Nat} {cs : List AV} {a : Bool} (hs : code.size ≤ 1048576) (hm : m ≤ 256) (h1 : 1 ≤ m) (hc : cs.length = m) (s : Sep H L) (p : Pk L (Cr c code i h) L1) (q : Pk L1 (.blk d cs a) L2)
  (hk : ∀ (x : AV) (i' : Nat) (h' : Int) (H' : Heap), x ∈ cs → Sep H' (Cr c code i' h' :: L1) → Gd G (KH x H')) :
  Gd G ((PR (n + 3) β).call ty (.fn 38 [] []) [.ptr c 0, .sl d 0 m 1] H fun x H => KH x H) := by
 rw [PR_hmD rfl rfl, f38_eq, f38]
 simp only [PR_len, PR_iadr, PR_load]
 refine g_lenL ?_
 refine belowK hs (by omega) s p fun z i' h' H' hz s' => ?_
 refine g_iadrS (by omega) (by omega) ?_
 have hlt : 0 + z.toNat * 1 < cs.length := by omega
 refine g_ld (c := cs[0 + z.toNat * 1]) s' (.there q) (List.getElem?_eq_getElem hlt) ?_
 exact hk _ i' h' H' (List.getElem_mem hlt) s'
theorem newK {ty : Nat} (hs : code.size ≤ 1048576) (hn : 4000 < n) (s : Sep H L) (hk : ∀ (c : Nat) (h : Int) (H' : Heap), Sep H' (Cr c code 0 h :: L) → Gd G (KH (.ptr c 0) H')) :
  Gd G ((PR (n + 1) β).call ty (.fn 33 [] []) [bytesC code] H fun x H => KH x H) := by
 obtain ⟨h, hr⟩ := new_run (β := β) (n := n) (H := H) code hs hn ty
 show Gd G ((PR (n + 1) β).call ty (.fn 33 [] []) [.ro code.size (bytesAV code)] H fun x H => KH x H)
 rw [hr]
 exact hk _ h _ (s.new (J := [H.length]) ⟨rfl, by rw [List.getElem?_append_right (Nat.le_refl _), Nat.sub_self]; rfl⟩ (by simp) (by simp))
theorem mem_ints {x : AV} {l : List Int} {lo hi : Int} (h : x ∈ l.map fun z => AV.sc (.int .i64 z)) (hl : ∀ z ∈ l, lo ≤ z ∧ z ≤ hi) : ∃ z : Int, x = .sc (.int .i64 z) ∧ lo ≤ z ∧ z ≤ hi := by
 obtain ⟨z, h1, rfl⟩ := List.mem_map.1 h
 exact ⟨z, rfl, hl z h1⟩
theorem mem_strs {x : AV} {l : List ByteArray} {m : Nat} (h : x ∈ l.map fun z => AV.sc (.string z)) (hl : ∀ z ∈ l, z.size ≤ m) : ∃ z : ByteArray, x = .sc (.string z) ∧ z.size ≤ m := by
 obtain ⟨z, h1, rfl⟩ := List.mem_map.1 h
 exact ⟨z, rfl, hl z h1⟩
theorem wtL_nil {α : Type} {w : α → Nat} : wtL w [] = 0 := rfl
theorem wtL_app1 {α : Type} {w : α → Nat} : ∀ (l : List α) (x : α), wtL w (l ++ [x]) = wtL w l + (1 + w x)
 | [], x => by show 1 + w x + 0 = 0 + (1 + w x); omega
 | y :: l, x => by
  show 1 + w y + wtL w (l ++ [x]) = 1 + w y + wtL w l + (1 + w x)
  rw [wtL_app1 l x]
  omega
end
end Go.Proofs.Ytejjggnchdldoaa.Abs
set_option linter.unusedVariables false
set_option linter.unusedSimpArgs false
set_option maxRecDepth 100000
set_option maxHeartbeats 1600000
namespace Go.Proofs.Ytejjggnchdldoaa.Abs
open Go
theorem usedK (n : Nat) (hn : 1048576 < n) (code : ByteArray) (hcode : code.size ≤ 1048576) (c i : Nat) (h : Int)   {β : Type} {G : Option β → Prop} {KH : AV → Heap → Option β} {H : Heap} {L : List Ck} (s0 : Sep H (Cr c code i h :: L)) (hk : ∀ (r0 : List Int) (r0x : AV) (i' : Nat) (h' : Int) (H' : Heap), (isLeaf r0x = true) → (r0.length ≤ 7 ∧ (∀ y ∈ r0, okI y)) → Sep H' (.own r0x 41 (intsC r0) :: Cr c code i' h' :: L) → Gd G (KH (r0x) H')) : Gd G (evalFn E0 (n + 5) β 39 [.ptr c 0] H fun x H => KH x H) := by
 rw [f39_eq, f39]
 try simp only [PR_box, PR_new, PR_newSl, PR_fadr, PR_load, PR_store, PR_bin, PR_binB, PR_binA, PR_un, PR_cond, PR_guard, PR_pick, PR_len, PR_lenS, PR_iadr, PR_idx, PR_slice, PR_sliceS, PR_fill, PR_make, PR_app, PR_appS, PR_cvI, PR_cvSS, PR_cvBS, PR_cvSB, PR_extr, PR_nil, PR_clear, PR_fld, PR_apart, PR_same]
 refine belowK (m := 8) hcode (by omega) s0 (.here) fun z1 iq2 hq2 H hz1 sq2 => ?_
 replace hz1 : 0 ≤ z1 ∧ z1 < 8 := by omega
 have lp3 : ∀ (j m : Nat) (z : Int) (a1 : List Int) (a1x : AV) (i : Nat) (h : Int) (H : Heap), j < m → z = ((j : Nat) : Int) → isLeaf a1x = true → (a1.length + j ≤ 7 ∧ (∀ y ∈ a1, okI y)) → Sep H (.own a1x 41 (intsC a1) :: Cr c code i h :: L) → Gd G (f39_l0 (PR ((n + 4)) β) ((n + 4)) (fun x H => KH x H) m (.ptr c 0) (a1x) (.sc (.int .i64 z)) H) := by
  clear s0 sq2
  intro j
  induction j with
  | zero =>
   intro m0 z a1 a1x i h H hm hz la1x hinv s0
   obtain ⟨m, rfl⟩ : ∃ m, m0 = m + 1 := ⟨m0 - 1, by omega⟩
   obtain ⟨hv1, hv2⟩ := hinv
   have hinv := And.intro hv1 hv2
   rw [f39_l0]
   try simp only [PR_box, PR_new, PR_newSl, PR_fadr, PR_load, PR_store, PR_bin, PR_binB, PR_binA, PR_un, PR_cond, PR_guard, PR_pick, PR_len, PR_lenS, PR_iadr, PR_idx, PR_slice, PR_sliceS, PR_fill, PR_make, PR_app, PR_appS, PR_cvI, PR_cvSS, PR_cvBS, PR_cvSB, PR_extr, PR_nil, PR_clear, PR_fld, PR_apart, PR_same]
   refine g_gtr ?_
   refine g_cF (decide_eq_false (by omega)) ?_
   have e4 : a1.length ≤ 7 ∧ (∀ y ∈ a1, okI y) := by
    first | assumption | exact ⟨by simp, by simp⟩ | (constructor <;> first | omega | (simp [okI]; try omega))
   exact hk a1 a1x i h _ la1x e4 (s0.sel (.cons (.here) (.cons (.here) .rest)))
  | succ j ih =>
   intro m0 z a1 a1x i h H hm hz la1x hinv s0
   obtain ⟨m, rfl⟩ : ∃ m, m0 = m + 1 := ⟨m0 - 1, by omega⟩
   obtain ⟨hv1, hv2⟩ := hinv
   have hinv := And.intro hv1 hv2
   rw [f39_l0]
   try simp only [PR_box, PR_new, PR_newSl, PR_fadr, PR_load, PR_store, PR_bin, PR_binB, PR_binA, PR_un, PR_cond, PR_guard, PR_pick, PR_len, PR_lenS, PR_iadr, PR_idx, PR_slice, PR_sliceS, PR_fill, PR_make, PR_app, PR_appS, PR_cvI, PR_cvSS, PR_cvBS, PR_cvSB, PR_extr, PR_nil, PR_clear, PR_fld, PR_apart, PR_same]
   refine g_gtr ?_
   refine g_cT (decide_eq_true (by omega)) ?_
   refine g_fill (cs := [.sc (.int .i64 1), .sc (.int .i64 2), .sc (.int .i64 3), .sc (.int .i64 4), .sc (.int .i64 65535), .sc (.int .i64 65534), .sc (.int .i64 0), .sc (.int .i64 (-1)), .sc (.int .i64 65536)]) rfl ?_
   refine g_newSl s0 fun i5 H s6 => ?_
   refine intK hcode (by omega) (by omega) rfl s6 (.there (.there (.here))) (.here) fun z7a iq8 hq8 H mz7 sq8 => ?_
   have s9 := (sq8.pick (.there (.here))).tail
   obtain ⟨z7, rfl, hz7⟩ := mem_ints (l := [1, 2, 3, 4, 65535, 65534, 0, (-1), 65536]) (lo := -1) (hi := 65536) mz7 (by decide)
   refine g_fill (cs := [.sc (.int .i64 z7)]) rfl ?_
   refine g_newSl s9 fun i10 H s11 => ?_
   refine g_appI1 s11 (.there (.there (.here))) (.here) ⟨_, _, rfl, rfl, rfl, rfl⟩ rfl (by first | omega | (simp only [List.length_map]; omega)) fun x12 H lx12 s13 => ?_
   refine g_sub (by omega) (by omega) ?_
   have e14 : (a1 ++ [z7]).length + j ≤ 7 ∧ (∀ y ∈ (a1 ++ [z7]), okI y) := by
    refine ⟨by simp only [List.length_append, List.length_singleton, List.length_nil]; omega, ?_⟩; intro y hy; first | (cases hy; done) | (rcases List.mem_append.1 hy with hy | hy; exact hinv.2 y hy; rw [List.mem_singleton.1 hy]; constructor <;> omega)
   exact ih m _ (a1 ++ [z7]) x12 iq8 hq8 _ (by omega) (by omega) lx12 e14 (s13.sel (.cons (.here) (.cons (.here) .rest)))
 have s15 := sq2.nl (ty := 41) ⟨_, _, rfl, rfl⟩
 have e16 : ([] : List Int).length + (z1).toNat ≤ 7 ∧ (∀ y ∈ ([] : List Int), okI y) := by
  refine ⟨by simp only [List.length_append, List.length_singleton, List.length_nil]; omega, ?_⟩; intro y hy; first | (cases hy; done) | (rcases List.mem_append.1 hy with hy | hy; exact hinv.2 y hy; rw [List.mem_singleton.1 hy]; constructor <;> omega)
 exact lp3 (z1).toNat _ _ ([] : List Int) .nl iq2 hq2 _ (by omega) (by omega) rfl e16 (s15.sel (.cons (.here) (.cons (.here) .rest)))
theorem drawNextK (n : Nat) (hn : 1048576 < n) (code : ByteArray) (hcode : code.size ≤ 1048576)   {β : Type} {G : Option β → Prop} {KH : AV → Heap → Option β} {H : Heap} {L : List Ck} (s0 : Sep H (L)) (hk : ∀ (r0 : Int) (r1 : List Int) (r1x : AV) (H' : Heap), (-1 ≤ r0 ∧ r0 ≤ 65536) → (isLeaf r1x = true) → (r1.length ≤ 7 ∧ (∀ y ∈ r1, okI y)) → Sep H' (.own r1x 41 (intsC r1) :: L) → Gd G (KH (.tup [.sc (.int .i64 r0), r1x]) H')) : Gd G (evalFn E0 (n + 6) β 19 [bytesC code] H fun x H => KH x H) := by
 rw [f19_eq, f19]
 try simp only [PR_box, PR_new, PR_newSl, PR_fadr, PR_load, PR_store, PR_bin, PR_binB, PR_binA, PR_un, PR_cond, PR_guard, PR_pick, PR_len, PR_lenS, PR_iadr, PR_idx, PR_slice, PR_sliceS, PR_fill, PR_make, PR_app, PR_appS, PR_cvI, PR_cvSS, PR_cvBS, PR_cvSB, PR_extr, PR_nil, PR_clear, PR_fld, PR_apart, PR_same]
 refine newK hcode (by omega) s0 fun c1 hq2 H sq2 => ?_
 refine g_fill (cs := [.sc (.int .i64 0), .sc (.int .i64 1), .sc (.int .i64 2), .sc (.int .i64 3), .sc (.int .i64 65533), .sc (.int .i64 65534), .sc (.int .i64 65535), .sc (.int .i64 65536), .sc (.int .i64 (-1))]) rfl ?_
 refine g_newSl sq2 fun i3 H s4 => ?_
 refine intK hcode (by omega) (by omega) rfl s4 (.there (.here)) (.here) fun z5a iq6 hq6 H mz5 sq6 => ?_
 have s7 := (sq6.pick (.there (.here))).tail
 obtain ⟨z5, rfl, hz5⟩ := mem_ints (l := [0, 1, 2, 3, 65533, 65534, 65535, 65536, (-1)]) (lo := -1) (hi := 65536) mz5 (by decide)
 refine g_hm rfl rfl ?_
 refine usedK _ (by omega) code hcode c1 iq6 hq6   (s7.pick (.here)) fun r8 r8x iq9 hq9 H lr8x hr8 sq9 => ?_
 have e10 : -1 ≤ z5 ∧ z5 ≤ 65536 := by
  first | omega | (simp; done) | (simp; omega)
 have e11 : r8.length ≤ 7 ∧ (∀ y ∈ r8, okI y) := by
  first | assumption | exact ⟨by simp, by simp⟩ | (constructor <;> first | omega | (simp [okI]; try omega))
 exact hk z5 r8 r8x _ e10 lr8x e11 (sq9.sel (.cons (.here) (.skip .rest)))
theorem drawStepsK (n : Nat) (hn : 1048576 < n) (code : ByteArray) (hcode : code.size ≤ 1048576)   {β : Type} {G : Option β → Prop} {KH : AV → Heap → Option β} {H : Heap} {L : List Ck} (s0 : Sep H (L)) (hk : ∀ (r0 : Int) (r1 : Int) (H' : Heap), (-1 ≤ r0 ∧ r0 ≤ 65536) → (0 ≤ r1 ∧ r1 ≤ 65536) → Sep H' (L) → Gd G (KH (.tup [.sc (.int .i64 r0), .sc (.int .i64 r1)]) H')) : Gd G (evalFn E0 (n + 6) β 21 [bytesC code] H fun x H => KH x H) := by
 rw [f21_eq, f21]
 try simp only [PR_box, PR_new, PR_newSl, PR_fadr, PR_load, PR_store, PR_bin, PR_binB, PR_binA, PR_un, PR_cond, PR_guard, PR_pick, PR_len, PR_lenS, PR_iadr, PR_idx, PR_slice, PR_sliceS, PR_fill, PR_make, PR_app, PR_appS, PR_cvI, PR_cvSS, PR_cvBS, PR_cvSB, PR_extr, PR_nil, PR_clear, PR_fld, PR_apart, PR_same]
 refine newK hcode (by omega) s0 fun c1 hq2 H sq2 => ?_
 refine g_fill (cs := [.sc (.int .i64 0), .sc (.int .i64 1), .sc (.int .i64 5), .sc (.int .i64 65535), .sc (.int .i64 65536), .sc (.int .i64 (-1))]) rfl ?_
 refine g_newSl sq2 fun i3 H s4 => ?_
 refine intK hcode (by omega) (by omega) rfl s4 (.there (.here)) (.here) fun z5a iq6 hq6 H mz5 sq6 => ?_
 have s7 := (sq6.pick (.there (.here))).tail
 obtain ⟨z5, rfl, hz5⟩ := mem_ints (l := [0, 1, 5, 65535, 65536, (-1)]) (lo := -1) (hi := 65536) mz5 (by decide)
 refine g_fill (cs := [.sc (.int .i64 0), .sc (.int .i64 1), .sc (.int .i64 2), .sc (.int .i64 5), .sc (.int .i64 65535), .sc (.int .i64 65536)]) rfl ?_
 refine g_newSl s7 fun i8 H s9 => ?_
 refine intK hcode (by omega) (by omega) rfl s9 (.there (.here)) (.here) fun z10a iq11 hq11 H mz10 sq11 => ?_
 have s12 := (sq11.pick (.there (.here))).tail
 obtain ⟨z10, rfl, hz10⟩ := mem_ints (l := [0, 1, 2, 5, 65535, 65536]) (lo := 0) (hi := 65536) mz10 (by decide)
 have e13 : -1 ≤ z5 ∧ z5 ≤ 65536 := by
  first | omega | (simp; done) | (simp; omega)
 have e14 : 0 ≤ z10 ∧ z10 ≤ 65536 := by
  first | omega | (simp; done) | (simp; omega)
 exact hk z5 z10 _ e13 e14 (s12.sel (.skip .rest))
def vSteps (a b : Int) : Int := if vIn a 0 65535 = true ∧ vIn b 1 65535 = true then (if a < b then b - a else b - a + 65535) else -1
theorem vSteps_nx (x : Int) (h0 : 0 ≤ x) (h1 : x ≤ 65535) (d : Int) (d0 : 1 ≤ d) (d1 : d ≤ 65535) : vSteps x ((x + d - 1) % 65535 + 1) = d := by
 unfold vSteps vIn
 have e1 := Int.emod_nonneg (x + d - 1) (show (65535 : Int) ≠ 0 by omega)
 have e2 := Int.emod_lt_of_pos (x + d - 1) (show (0 : Int) < 65535 by omega)
 rw [if_pos (by simp; omega)]
 split <;> omega
theorem seek_first : ∀ (used : List Int) (k : Nat) (x : Int), 0 ≤ x → (seek used k x).2 = true → ∃ d : Nat, 1 ≤ d ∧ d ≤ k ∧ (seek used k x).1 = (x + d - 1) % 65535 + 1 ∧ used.contains (seek used k x).1 = false ∧ ∀ i : Nat, 1 ≤ i → i < d → used.contains ((x + i - 1) % 65535 + 1) = true
 | used, 0, x, h0, h => by cases h
 | used, k + 1, x, h0, h => by
  rw [seek] at h ⊢
  by_cases hc : used.contains (nx x) = true
  ·rw [if_pos hc] at h ⊢
   obtain ⟨d, a1, a2, a3, a4, a5⟩ := seek_first used k (nx x) (by unfold nx; omega) h
   refine ⟨d + 1, by omega, by omega, ?_, a4, ?_⟩
   ·rw [a3]
    unfold nx
    omega
   ·intro i hi hd
    by_cases h1 : i = 1
    ·subst h1
     have : nx x = (x + (1 : Nat) - 1) % 65535 + 1 := by
      unfold nx
      simp
     rw [← this]
     exact hc
    ·have := a5 (i - 1) (by omega) (by omega)
     have e : (nx x + ((i - 1 : Nat) : Int) - 1) % 65535 + 1 = (x + (i : Int) - 1) % 65535 + 1 := by
      unfold nx
      omega
     rw [← e]
     exact this
  ·rw [if_neg hc]
   refine ⟨1, by omega, by omega, ?_, by simpa using hc, fun i h1 h2 => by omega⟩
   unfold nx
   simp
theorem isIdF (n : Nat) (hn : 1048576 < n) (i : Int) : tree E0 (n + 2) 4 41 [.sc (.int .i64 i)] = some (.sc (.bool (vIn i 1 65535))) := by
 rw [tree_def, f41_eq, f41]
 refine tree_gd (G := (· = some (.sc (.bool (vIn i 1 65535))))) ?_
 try simp only [PR_box, PR_new, PR_newSl, PR_fadr, PR_load, PR_store, PR_bin, PR_binB, PR_binA, PR_un, PR_cond, PR_guard, PR_pick, PR_len, PR_lenS, PR_iadr, PR_idx, PR_slice, PR_sliceS, PR_fill, PR_make, PR_app, PR_appS, PR_cvI, PR_cvSS, PR_cvBS, PR_cvSB, PR_extr, PR_nil, PR_clear, PR_fld, PR_apart, PR_same]
 have s0 : Sep [] [] := sep_nil
 refine g_callS (v := (.bool (vIn i 1 65535))) s0 rfl (.cons .sc (.cons .sc (.cons .sc .nil))) (withinF n _ i 1 65535) ?_
 refine g_ret rfl ?_
 first | rfl | (simp_all; done)
theorem isWordF (n : Nat) (hn : 1048576 < n) (i : Int) : tree E0 (n + 2) 4 40 [.sc (.int .i64 i)] = some (.sc (.bool (vIn i 0 65535))) := by
 rw [tree_def, f40_eq, f40]
 refine tree_gd (G := (· = some (.sc (.bool (vIn i 0 65535))))) ?_
 try simp only [PR_box, PR_new, PR_newSl, PR_fadr, PR_load, PR_store, PR_bin, PR_binB, PR_binA, PR_un, PR_cond, PR_guard, PR_pick, PR_len, PR_lenS, PR_iadr, PR_idx, PR_slice, PR_sliceS, PR_fill, PR_make, PR_app, PR_appS, PR_cvI, PR_cvSS, PR_cvBS, PR_cvSB, PR_extr, PR_nil, PR_clear, PR_fld, PR_apart, PR_same]
 have s0 : Sep [] [] := sep_nil
 refine g_callS (v := (.bool (vIn i 0 65535))) s0 rfl (.cons .sc (.cons .sc (.cons .sc .nil))) (withinF n _ i 0 65535) ?_
 refine g_ret rfl ?_
 first | rfl | (simp_all; done)
theorem implStepsF (n : Nat) (hn : 1048576 < n) (a : Int) (b : Int) (ha : -1 ≤ a ∧ a ≤ 65536) (hb : -1 ≤ b ∧ b ≤ 65536) : tree E0 (n + 3) 3 22 [.sc (.int .i64 a), .sc (.int .i64 b)] = some (.sc (.int .i64 (vSteps a b))) := by
 rw [tree_def, f22_eq, f22]
 refine tree_gd (G := (· = some (.sc (.int .i64 (vSteps a b))))) ?_
 try simp only [PR_box, PR_new, PR_newSl, PR_fadr, PR_load, PR_store, PR_bin, PR_binB, PR_binA, PR_un, PR_cond, PR_guard, PR_pick, PR_len, PR_lenS, PR_iadr, PR_idx, PR_slice, PR_sliceS, PR_fill, PR_make, PR_app, PR_appS, PR_cvI, PR_cvSS, PR_cvBS, PR_cvSB, PR_extr, PR_nil, PR_clear, PR_fld, PR_apart, PR_same]
 have s0 : Sep [] [] := sep_nil
 refine g_callS (v := (.bool (vIn a 0 65535))) s0 rfl (.cons .sc .nil) (isWordF n (by omega) a) ?_
 refine g_not ?_
 refine w_split ((vIn a 0 65535)) (fun h1 => ?_) (fun h1 => ?_)
 ·refine g_gY (nF h1) ?_
  refine g_gY (nF h1) ?_
  refine g_callS (v := (.bool (vIn b 1 65535))) s0 rfl (.cons .sc .nil) (isIdF n (by omega) b) ?_
  refine g_gY (nF h1) ?_
  refine g_not ?_
  refine g_pF (nF h1) ?_
  refine w_split ((vIn b 1 65535)) (fun h2 => ?_) (fun h2 => ?_)
  ·refine g_cF (nF h2) ?_
   refine g_lss ?_
   refine w_split ((decide (a < b))) (fun h3 => ?_) (fun h3 => ?_)
   ·refine g_cT h3 ?_
    refine g_sub (by omega) (by omega) ?_
    refine g_ret rfl ?_
    congr 3; unfold vSteps; simp_all <;> omega
   ·refine g_cF h3 ?_
    refine g_sub (by omega) (by omega) ?_
    refine g_add (by omega) (by omega) ?_
    refine g_ret rfl ?_
    congr 3; unfold vSteps; simp_all <;> omega
  ·refine g_cT (nT h2) ?_
   refine g_ret rfl ?_
   congr 3; unfold vSteps; simp_all <;> omega
 ·refine g_gN (nT h1) ?_
  refine g_gN (nT h1) ?_
  refine g_gN (nT h1) ?_
  refine g_pT (nT h1) ?_
  refine g_cT rfl ?_
  refine g_ret rfl ?_
  congr 3; unfold vSteps; simp_all <;> omega
theorem specStepsF (n : Nat) (hn : 1048576 < n) (a : Int) (b : Int) (ha : -1 ≤ a ∧ a ≤ 65536) (hb : -1 ≤ b ∧ b ≤ 65536) : tree E0 (n + 3) 3 23 [.sc (.int .i64 a), .sc (.int .i64 b)] = some (.sc (.int .i64 (vSteps a b))) := by
 rw [tree_def, f23_eq, f23]
 refine tree_gd (G := (· = some (.sc (.int .i64 (vSteps a b))))) ?_
 try simp only [PR_box, PR_new, PR_newSl, PR_fadr, PR_load, PR_store, PR_bin, PR_binB, PR_binA, PR_un, PR_cond, PR_guard, PR_pick, PR_len, PR_lenS, PR_iadr, PR_idx, PR_slice, PR_sliceS, PR_fill, PR_make, PR_app, PR_appS, PR_cvI, PR_cvSS, PR_cvBS, PR_cvSB, PR_extr, PR_nil, PR_clear, PR_fld, PR_apart, PR_same]
 have s0 : Sep [] [] := sep_nil
 refine g_callS (v := (.bool (vIn a 0 65535))) s0 rfl (.cons .sc (.cons .sc (.cons .sc .nil))) (l1InF (n + 1) _ a 0 65535) ?_
 refine g_not ?_
 refine w_split ((vIn a 0 65535)) (fun h1 => ?_) (fun h1 => ?_)
 ·refine g_gY (nF h1) ?_
  refine g_gY (nF h1) ?_
  refine g_callS (v := (.bool (vIn b 1 65535))) s0 rfl (.cons .sc (.cons .sc (.cons .sc .nil))) (l1InF (n + 1) _ b 1 65535) ?_
  refine g_gY (nF h1) ?_
  refine g_not ?_
  refine g_pF (nF h1) ?_
  refine w_split ((vIn b 1 65535)) (fun h2 => ?_) (fun h2 => ?_)
  ·refine g_cF (nF h2) ?_
   refine g_gtr ?_
   refine w_split ((decide (a < b))) (fun h3 => ?_) (fun h3 => ?_)
   ·refine g_cT h3 ?_
    refine g_sub (by omega) (by omega) ?_
    refine g_ret rfl ?_
    congr 3; unfold vSteps; simp_all <;> omega
   ·refine g_cF h3 ?_
    refine g_sub (by omega) (by omega) ?_
    refine g_add (by omega) (by omega) ?_
    refine g_ret rfl ?_
    congr 3; unfold vSteps; simp_all <;> omega
  ·refine g_cT (nT h2) ?_
   refine g_ret rfl ?_
   congr 3; unfold vSteps; simp_all <;> omega
 ·refine g_gN (nT h1) ?_
  refine g_gN (nT h1) ?_
  refine g_gN (nT h1) ?_
  refine g_pT (nT h1) ?_
  refine g_cT rfl ?_
  refine g_ret rfl ?_
  congr 3; unfold vSteps; simp_all <;> omega
theorem bigF (n ty : Nat) (s : ByteArray) : tree E0 (n + 1) ty 13 [bytesC s] = some (.sc (.bool (decide ((1048576 : Int) < (s.size : Nat))))) := by
 rw [tree_def, f13_eq, f13]
 simp only [PR_len, PR_bin]
 refine w_len ?_
 rfl
section
variable {n : Nat} {r : Option AV} {k : AV → Heap → Option AV} {L : List Ck} {H : Heap}
theorem fnx_row_at {us pre t : List Int} {y i : Int} {x : AV} {sz : Nat} {K : AV → Option AV} (s : Sep H (.own x 41 (intsC us) :: L)) (he : us = pre ++ y :: t) (hi : i = ((pre.length : Nat) : Int)) (h : Gd (· = r) (K (.sc (.int .i64 y)))) : Gd (· = r) (pIadr 1 x (.sc (.int .i64 i)) fun a => pLoad false 1 a H fun v => K v) := by
 refine g_iadrO (m := us.length) (cells := us.map fun z => .sc (.int .i64 z)) s ⟨_, _, rfl, rfl, rfl⟩ .here (by omega) (by rw [he, hi]; simp; omega) fun id off hc => ?_
 have hx : (us.map fun z => AV.sc (.int .i64 z))[i.toNat * 1 + 0]? = some (.sc (.int .i64 y)) := by
  rw [he, hi]
  simp
 exact g_ldH (hc 0 _ (by omega) hx) h
theorem fnx_next_l2 (us : List Int) (hu : us.length ≤ 1048576) (x : AV) (id z : Int) (hid : us.contains id = false) (hz0 : 0 ≤ z) (hz1 : z ≤ 65535) (hz : z % 65535 + 1 = id) (hk : ∀ H', k (.sc (.bool true)) H' = r) (s : Sep H (.own x 41 (intsC us) :: L)) : ∀ (t pre : List Int) (m : Nat) (i : Int), us = pre ++ t → i = ((pre.length : Nat) : Int) → t.length < m →
  Gd (· = r) (f5_l2 (PR n AV) n k m x (.sc (.int .i64 id)) (.sc (.int .i64 z)) (.sc (.int .i64 i)) H)
 | [], pre, m + 1, i, he, hi, hm => by
  rw [List.append_nil] at he
  subst he
  rw [f5_l2]
  simp only [PR_len, PR_bin, PR_cond, PR_iadr, PR_load]
  refine g_lenO s .here ?_
  refine g_lss ?_
  refine g_cF (by simp [hi]) ?_
  refine g_bin (v := .sc (.int .i64 (z % 65535))) (fun k => ?_) ?_
  ·show k (.sc (.int .i64 (z.tmod 65535))) = _
   rw [Int.tmod_eq_emod_of_nonneg hz0]
  refine g_add (by omega) (by omega) ?_
  refine g_eql ?_
  rw [decide_eq_true hz]
  exact hk _
 | y :: t, pre, m + 1, i, he, hi, hm => by
  have hlt : pre.length < us.length := by rw [he]; simp
  rw [f5_l2]
  simp only [PR_len, PR_bin, PR_cond, PR_iadr, PR_load]
  refine g_lenO s .here ?_
  refine g_lss ?_
  refine g_cT (by simp [hi]; omega) ?_
  refine fnx_row_at (sz := 0) s he hi ?_
  refine g_eql ?_
  have hy : y ≠ id := by
   rintro rfl
   rw [he] at hid
   simp at hid
  refine g_cF (decide_eq_false hy) ?_
  refine g_add (by omega) (by omega) ?_
  exact fnx_next_l2 us hu x id z hid hz0 hz1 hz hk s t (pre ++ [y]) m _ (by rw [he]; simp) (by rw [hi]; simp) (by simpa using hm)
theorem fnx_next_l1 (us : List Int) (hu : us.length ≤ 1048576) (x : AV) (a id z i0 : Int) (hc : us.contains z = true) (hi0 : 0 ≤ i0 ∧ i0 ≤ 65535) (g : AV → AV → AV → AV → AV → Heap → Option AV) (s : Sep H (.own x 41 (intsC us) :: L)) (hg : Gd (· = r) (g (.sc (.int .i64 a)) x (.sc (.int .i64 id)) (.sc (.int .i64 z)) (.sc (.int .i64 (i0 + 1))) H)) : ∀ (t pre : List Int) (m : Nat) (i : Int), us = pre ++ t → i = ((pre.length : Nat) : Int) → t.length < m →
  Gd (· = r) (f5_l1 (PR n AV) n g k m (.sc (.int .i64 a)) x (.sc (.int .i64 id)) (.sc (.int .i64 z)) (.sc (.int .i64 i0)) (.sc (.bool (pre.contains z))) (.sc (.int .i64 i)) H)
 | [], pre, m + 1, i, he, hi, hm => by
  rw [List.append_nil] at he
  subst he
  rw [f5_l1]
  simp only [PR_len, PR_bin, PR_cond, PR_iadr, PR_load, PR_guard, PR_pick, PR_un]
  refine g_lenO s .here ?_
  refine g_lss ?_
  refine g_cF (by simp [hi]) ?_
  refine g_not ?_
  refine g_cF (by rw [hc]; rfl) ?_
  refine g_add (by omega) (by omega) ?_
  exact hg
 | y :: t, pre, m + 1, i, he, hi, hm => by
  have hlt : pre.length < us.length := by rw [he]; simp
  rw [f5_l1]
  simp only [PR_len, PR_bin, PR_cond, PR_iadr, PR_load, PR_guard, PR_pick, PR_un]
  refine g_lenO s .here ?_
  refine g_lss ?_
  refine g_cT (by simp [hi]; omega) ?_
  have ih := fnx_next_l1 us hu x a id z i0 hc hi0 g s hg t (pre ++ [y]) m (i + 1) (by rw [he]; simp) (by rw [hi]; simp) (by simpa using hm)
  by_cases hp : pre.contains z = true
  ·have e : (pre ++ [y]).contains z = true := by
    rw [List.contains_iff_mem] at hp ⊢
    exact List.mem_append_left _ hp
   rw [e] at ih
   refine g_gN hp ?_
   refine g_gN hp ?_
   refine g_gN hp ?_
   refine g_gN hp ?_
   refine g_gN hp ?_
   refine g_gN hp ?_
   refine g_pT hp ?_
   refine g_add (by omega) (by omega) ?_
   exact ih
  ·have hp : pre.contains z = false := by simpa using hp
   have e : (pre ++ [y]).contains z = decide (y = z) := by
    rw [Bool.eq_iff_iff, List.contains_iff_mem]
    have hn : z ∉ pre := fun h => by rw [List.contains_iff_mem.2 h] at hp; cases hp
    simp [hn, eq_comm]
   rw [e] at ih
   refine g_gY hp ?_
   refine g_gY hp ?_
   refine g_gY hp ?_
   refine g_iadrO (m := us.length) (cells := us.map fun z => .sc (.int .i64 z)) s ⟨_, _, rfl, rfl, rfl⟩ .here (by omega) (by rw [he, hi]; simp; omega) fun id' off hc' => ?_
   have hx : (us.map fun z => AV.sc (.int .i64 z))[i.toNat * 1 + 0]? = some (.sc (.int .i64 y)) := by
    rw [he, hi]
    simp
   refine g_gY hp ?_
   refine g_ldH (hc' 0 _ (by omega) hx) ?_
   refine g_gY hp ?_
   refine g_gY hp ?_
   refine g_eql ?_
   refine g_pF hp ?_
   refine g_add (by omega) (by omega) ?_
   exact ih
theorem fnx_next_l0 (hn : 1048576 < n) (us : List Int) (hu : us.length ≤ 1048576) (x : AV) (a id : Int) (ha0 : 0 ≤ a) (ha1 : a ≤ 65535) (d : Nat) (d0 : 1 ≤ d) (d1 : d ≤ 65535) (hid : id = (a + d - 1) % 65535 + 1) (hni : us.contains id = false) (hall : ∀ i : Nat, 1 ≤ i → i < d → us.contains ((a + i - 1) % 65535 + 1) = true) (hk : ∀ H', k (.sc (.bool true)) H' = r) (s : Sep H (.own x 41 (intsC us) :: L)) : ∀ (j m : Nat) (i z : Int), i + j = d → 1 ≤ i → j < m → (0 ≤ z ∧ z ≤ 65535) → z % 65535 + 1 = (a + i - 1) % 65535 + 1 →
  Gd (· = r) (f5_l0 (PR (n + 3) AV) (n + 3) k m (.sc (.int .i64 a)) x (.sc (.int .i64 id)) (.sc (.int .i64 z)) (.sc (.int .i64 i)) H) := by
 have e1 := Int.emod_nonneg (a + d - 1) (show (65535 : Int) ≠ 0 by omega)
 have e2 := Int.emod_lt_of_pos (a + d - 1) (show (0 : Int) < 65535 by omega)
 have hst : vSteps a id = d := by rw [hid]; exact vSteps_nx a ha0 ha1 d (by omega) (by omega)
 intro j
 induction j with
 | zero =>
  intro m0 i z hi h1 hm hz hzi
  obtain ⟨m, rfl⟩ : ∃ m, m0 = m + 1 := ⟨m0 - 1, by omega⟩
  rw [f5_l0]
  simp only [PR_bin, PR_cond]
  refine g_callS s rfl (.cons .sc (.cons .sc .nil)) (implStepsF n (by omega) a id (by omega) (by omega)) ?_
  refine g_lss ?_
  refine g_cF (decide_eq_false (by omega)) ?_
  exact fnx_next_l2 us hu x id z hni hz.1 hz.2 (by rw [hzi, hid, show i = (d : Int) by omega]) hk s us [] (n + 3) 0 rfl rfl (by omega)
 | succ j ih =>
  intro m0 i z hi h1 hm hz hzi
  obtain ⟨m, rfl⟩ : ∃ m, m0 = m + 1 := ⟨m0 - 1, by omega⟩
  have e3 := Int.emod_nonneg (a + i - 1) (show (65535 : Int) ≠ 0 by omega)
  have e4 := Int.emod_lt_of_pos (a + i - 1) (show (0 : Int) < 65535 by omega)
  rw [f5_l0]
  simp only [PR_bin, PR_cond]
  refine g_callS s rfl (.cons .sc (.cons .sc .nil)) (implStepsF n (by omega) a id (by omega) (by omega)) ?_
  refine g_lss ?_
  refine g_cT (decide_eq_true (by omega)) ?_
  refine g_bin (v := .sc (.int .i64 (z % 65535))) (fun k => ?_) ?_
  ·show k (.sc (.int .i64 (z.tmod 65535))) = _
   rw [Int.tmod_eq_emod_of_nonneg hz.1]
  refine g_add (by omega) (by omega) ?_
  rw [hzi]
  have hcon := hall i.toNat (by omega) (by omega)
  rw [show ((i.toNat : Nat) : Int) = i by omega] at hcon
  refine fnx_next_l1 us hu x a id _ i hcon ⟨by omega, by omega⟩ (f5_l0 (PR (n + 3) AV) (n + 3) k m) s ?_ us [] (n + 3) 0 rfl rfl (by omega)
  exact ih m (i + 1) _ (by omega) (by omega) (by omega) ⟨by omega, by omega⟩ (by omega)
end
theorem fnx_facts (a : Int) (u : List Int) (hu : u.length < 65535) : (0 ≤ a ∧ a ≤ 65535 ∧ (vNext a u).2 = true ∧ 1 ≤ (vNext a u).1 ∧ (vNext a u).1 ≤ 65535) ∨ ((a < 0 ∨ 65535 < a) ∧ (vNext a u).2 = false ∧ (vNext a u).1 = 0) := by
 by_cases h : 0 ≤ a ∧ a ≤ 65535
 ·left
  have h2 := next_found a u h hu
  have h3 : vNext a u = seek u 65535 a := by unfold vNext; rw [if_pos h]
  rw [h3] at h2 ⊢
  exact ⟨h.1, h.2, h2, seek_range u 65535 a h.1 h2⟩
 ·right
  have h3 : vNext a u = (0, false) := by unfold vNext; rw [if_neg h]
  rw [h3]
  exact ⟨by omega, rfl, rfl⟩
theorem law_FnNext (n : Nat) (hn : 1048576 < n) (code : ByteArray) (k0 : okS code) : tree E0 (n + 30) 4 5 [bytesC code] = some (.sc (.bool true)) := by
 rw [tree_def, f5_eq, f5]
 refine tree_gd (G := (· = some (.sc (.bool true)))) ?_
 simp only [PR_box, PR_new, PR_newSl, PR_fadr, PR_load, PR_store, PR_bin, PR_binB, PR_binA, PR_un, PR_cond, PR_guard, PR_pick, PR_len, PR_lenS, PR_iadr, PR_idx, PR_slice, PR_sliceS, PR_fill, PR_make, PR_app, PR_appS, PR_cvI, PR_cvSS, PR_cvBS, PR_cvSB, PR_extr, PR_nil, PR_clear, PR_fld, PR_apart, PR_same]
 have s0 : Sep [] [] := sep_nil
 refine g_callS (v := .bool (decide ((1048576 : Int) < (code.size : Nat)))) s0 rfl (.cons .ro .nil) (bigF (n + 28) _ code) ?_
 by_cases hcode : code.size ≤ 1048576
 ·refine g_cF (decide_eq_false (by omega)) ?_
  refine g_hm rfl rfl ?_
  refine drawNextK _ (by omega) code hcode   s0 fun r1 r2 r2x H hr1 lr2x hr2 s3 => ?_
  refine g_extr (v := .sc (.int .i64 r1)) rfl ?_
  refine g_extr (v := r2x) rfl ?_
  have c4 := implNextF (n + 26) (by omega) 44 ⟨_, _, rfl⟩ r1 r2 (by omega)
  refine g_callT s3 rfl (.cons .sc (.cons (.own (by decide) (.here)) .nil)) (c4) rfl (ins_sc (ins_sc ins_nil)) ?_
  rintro _ _ H ⟨_, rfl, ⟨_, rfl, ⟨rfl, rfl⟩⟩⟩ s5
  simp only [List.nil_append] at s5
  refine g_extr (v := .sc (.int .i64 ((vNext r1 r2).1))) rfl ?_
  refine g_extr (v := .sc (.bool (vNext r1 r2).2)) rfl ?_
  refine g_hm rfl rfl ?_
  refine drawStepsK _ (by omega) code hcode   s5 fun r6 r7 H hr6 hr7 s8 => ?_
  refine g_extr (v := .sc (.int .i64 r6)) rfl ?_
  refine g_extr (v := .sc (.int .i64 r7)) rfl ?_
  refine g_lss ?_
  refine w_split ((decide (r1 < 0))) (fun h9 => ?_) (fun h9 => ?_)
  ·refine g_gN h9 ?_
   refine g_gN h9 ?_
   refine g_pT h9 ?_
   refine g_cT rfl ?_
   refine g_not ?_
   refine w_split ((vNext r1 r2).2) (fun h10 => ?_) (fun h10 => ?_)
   ·refine g_gN (nF h10) ?_
    refine g_gN (nF h10) ?_
    refine g_pF (nF h10) ?_
    refine g_ret rfl ?_
    first | rfl | (rcases fnx_facts r1 r2 (by omega) with ⟨f1, f2, f3, f4, f5⟩ | ⟨f1, f2, f3⟩ <;> simp only [decide_eq_true_eq, decide_eq_false_iff_not, bne_iff_ne, ne_eq] at * <;> first | omega | (simp_all; done) | (simp_all; omega))
   ·refine g_gY (nT h10) ?_
    refine g_gY (nT h10) ?_
    refine g_eql ?_
    refine g_pT (nT h10) ?_
    refine g_ret rfl ?_
    first | rfl | (rcases fnx_facts r1 r2 (by omega) with ⟨f1, f2, f3, f4, f5⟩ | ⟨f1, f2, f3⟩ <;> simp only [decide_eq_true_eq, decide_eq_false_iff_not, bne_iff_ne, ne_eq] at * <;> first | omega | (simp_all; done) | (simp_all; omega))
  ·refine g_gY h9 ?_
   refine g_gY h9 ?_
   refine g_gtr ?_
   refine g_pF h9 ?_
   refine w_split ((decide (65535 < r1))) (fun h11 => ?_) (fun h11 => ?_)
   ·refine g_cT h11 ?_
    refine g_not ?_
    refine w_split ((vNext r1 r2).2) (fun h12 => ?_) (fun h12 => ?_)
    ·refine g_gN (nF h12) ?_
     refine g_gN (nF h12) ?_
     refine g_pF (nF h12) ?_
     refine g_ret rfl ?_
     first | rfl | (rcases fnx_facts r1 r2 (by omega) with ⟨f1, f2, f3, f4, f5⟩ | ⟨f1, f2, f3⟩ <;> simp only [decide_eq_true_eq, decide_eq_false_iff_not, bne_iff_ne, ne_eq] at * <;> first | omega | (simp_all; done) | (simp_all; omega))
    ·refine g_gY (nT h12) ?_
     refine g_gY (nT h12) ?_
     refine g_eql ?_
     refine g_pT (nT h12) ?_
     refine g_ret rfl ?_
     first | rfl | (rcases fnx_facts r1 r2 (by omega) with ⟨f1, f2, f3, f4, f5⟩ | ⟨f1, f2, f3⟩ <;> simp only [decide_eq_true_eq, decide_eq_false_iff_not, bne_iff_ne, ne_eq] at * <;> first | omega | (simp_all; done) | (simp_all; omega))
   ·refine g_cF h11 ?_
    refine g_not ?_
    refine w_split ((vNext r1 r2).2) (fun h13 => ?_) (fun h13 => ?_)
    ·refine g_gY (nF h13) ?_
     refine g_gY (nF h13) ?_
     refine g_lss ?_
     refine g_pF (nF h13) ?_
     refine w_split ((decide (((vNext r1 r2).1) < 1))) (fun h14 => ?_) (fun h14 => ?_)
     ·refine g_gN h14 ?_
      refine g_gN h14 ?_
      refine g_pT h14 ?_
      refine g_gN rfl ?_
      refine g_gN rfl ?_
      refine g_gN rfl ?_
      refine g_gN rfl ?_
      refine g_gN rfl ?_
      refine g_gN rfl ?_
      refine g_gN rfl ?_
      refine g_pT rfl ?_
      refine g_cT rfl ?_
      refine g_ret rfl ?_
      first | rfl | (rcases fnx_facts r1 r2 (by omega) with ⟨f1, f2, f3, f4, f5⟩ | ⟨f1, f2, f3⟩ <;> simp only [decide_eq_true_eq, decide_eq_false_iff_not, bne_iff_ne, ne_eq] at * <;> first | omega | (simp_all; done) | (simp_all; omega))
     ·refine g_gY h14 ?_
      refine g_gY h14 ?_
      refine g_gtr ?_
      refine g_pF h14 ?_
      refine w_split ((decide (65535 < ((vNext r1 r2).1)))) (fun h15 => ?_) (fun h15 => ?_)
      ·refine g_gN h15 ?_
       refine g_gN h15 ?_
       refine g_gN h15 ?_
       refine g_gN h15 ?_
       refine g_gN h15 ?_
       refine g_gN h15 ?_
       refine g_gN h15 ?_
       refine g_pT h15 ?_
       refine g_cT rfl ?_
       refine g_ret rfl ?_
       first | rfl | (rcases fnx_facts r1 r2 (by omega) with ⟨f1, f2, f3, f4, f5⟩ | ⟨f1, f2, f3⟩ <;> simp only [decide_eq_true_eq, decide_eq_false_iff_not, bne_iff_ne, ne_eq] at * <;> first | omega | (simp_all; done) | (simp_all; omega))
      ·refine g_gY h15 ?_
       refine g_gY h15 ?_
       refine g_gY h15 ?_
       refine g_callS (v := (.int .i64 (vSteps r6 r7))) s8 rfl (.cons .sc (.cons .sc .nil)) (implStepsF (n + 26) (by omega) r6 r7 (by omega) (by omega)) ?_
       refine g_gY h15 ?_
       refine g_gY h15 ?_
       refine g_gY h15 ?_
       refine g_callS (v := (.int .i64 (vSteps r6 r7))) s8 rfl (.cons .sc (.cons .sc .nil)) (specStepsF (n + 26) (by omega) r6 r7 (by omega) (by omega)) ?_
       refine g_gY h15 ?_
       refine g_neq ?_
       refine g_pF h15 ?_
       refine w_split ((decide ((vSteps r6 r7) = (vSteps r6 r7)))) (fun h16 => ?_) (fun h16 => ?_)
       ·refine g_cF (nF h16) ?_
        have ha : 0 ≤ r1 ∧ r1 ≤ 65535 := by simp only [decide_eq_false_iff_not] at *; omega
        have hf := next_found r1 r2 ha (by omega)
        have hv : vNext r1 r2 = seek r2 65535 r1 := by unfold vNext; rw [if_pos ha]
        rw [hv] at hf
        obtain ⟨d, a1, a2, a3, a4, a5⟩ := seek_first r2 65535 r1 ha.1 hf
        rw [hv]
        refine fnx_next_l0 (n := n + 26) (by omega) r2 (by omega) r2x r1 _ ha.1 ha.2 d a1 a2 a3 a4 a5 (fun H' => ?_) (s8.pick (.here)) (d - 1) (n + 29) 1 r1 (by omega) (by omega) (by omega) ha (by omega)
        rfl
       ·refine g_cT (nT h16) ?_
        refine g_ret rfl ?_
        first | rfl | (rcases fnx_facts r1 r2 (by omega) with ⟨f1, f2, f3, f4, f5⟩ | ⟨f1, f2, f3⟩ <;> simp only [decide_eq_true_eq, decide_eq_false_iff_not, bne_iff_ne, ne_eq] at * <;> first | omega | (simp_all; done) | (simp_all; omega))
    ·refine g_gN (nT h13) ?_
     refine g_gN (nT h13) ?_
     refine g_pT (nT h13) ?_
     refine g_gN rfl ?_
     refine g_gN rfl ?_
     refine g_pT rfl ?_
     refine g_gN rfl ?_
     refine g_gN rfl ?_
     refine g_gN rfl ?_
     refine g_gN rfl ?_
     refine g_gN rfl ?_
     refine g_gN rfl ?_
     refine g_gN rfl ?_
     refine g_pT rfl ?_
     refine g_cT rfl ?_
     refine g_ret rfl ?_
     first | rfl | (rcases fnx_facts r1 r2 (by omega) with ⟨f1, f2, f3, f4, f5⟩ | ⟨f1, f2, f3⟩ <;> simp only [decide_eq_true_eq, decide_eq_false_iff_not, bne_iff_ne, ne_eq] at * <;> first | omega | (simp_all; done) | (simp_all; omega))
 ·refine g_cT (decide_eq_true (by omega)) ?_
  exact g_ret rfl rfl
end Go.Proofs.Ytejjggnchdldoaa.Abs
namespace Go.Proofs.Ytejjggnchdldoaa.Abs
open Go
set_option linter.unusedVariables false
set_option linter.unusedSimpArgs false
end Go.Proofs.Ytejjggnchdldoaa.Abs
namespace Go.Proofs.Ytejjggnchdldoaa.fnNext
open Go Go.ChangeShapes Go.WideShapes Go.ChangeAt Go.RowKit
open Go.Proofs.Ytejjggnchdldoaa.Abs
set_option linter.unusedVariables false
theorem own : ownKnob Try.prog.godebug = none := by kernel_rfl
theorem laidOut : laidOutB Try.prog = true := by kernel_rfl
theorem types : ([34].all (tyB ti0 14)) = true := by kernel_rfl
theorem readable : ([34].all fun t => Try.prog.readableRec t && decide (t < Try.prog.types.size)) = true := by kernel_rfl
theorem pure_ {xs : List AV} (h : okAs ti0 14 [34] xs) : ∃ n, tree E0 n 4 5 xs = some (.sc (.bool true)) := by
 obtain ⟨y0, ys0, rfl, ⟨cs0, h0, rfl⟩, h⟩ := h
 obtain rfl := h
 obtain ⟨x0, rfl, k0⟩ := okT_bytes' ⟨_, rfl, rfl, rfl, rfl, rfl, rfl⟩ h0
 exact ⟨_, law_FnNext 1048577 (by omega) x0 k0⟩
set_option maxRecDepth 100000 in
theorem lifted (os : Os) (started : os.Started) (H : Type) (enc : TypeId × Value → H) :
  ReturnsInHanded {} Try.checked os 5 .any (Rows.fnNextSpec.pre6 enc Try.prog Try.f5 Rows.fnNextRow.domain false) (Rows.fnNextSpec.post enc Try.prog Try.f5 false true false false) := by
 refine returnsInHanded_of_change_sized (C := Try.checked) own started (by kernel_rfl) Try.func5
  (ChangeSpec.witness6 (enc := enc) (C := Try.checked) false ⟨#[], #[.slice none 0 0], []⟩ 8 (by kernel_rfl) (by kernel_rfl) (by kernel_rfl) (by kernel_rfl)) ?_
 intro W base args ds gs before hval0 hW hcnd hsz0 _
 have hval : ∀ (j : Nat) t v, Try.f5.params[j]? = some t → args[j]? = some v → Value.okWide Try.prog W .any base t v := hval0
 have hW' := hW
 obtain ⟨p, q, hA0, hV, rfl, hfz, hnd⟩ := hW
 have hA : DataW.TrodAll enc Try.prog W 0 (fun _ => true) true Try.f5.params.toList args.toList ds p := hA0
 rw [Try.params5] at hA hval
 obtain ⟨xs, hok, hl, hx⟩ := args_sound tabOk0 (n := 14) [34] args.toList ds p hA (fun j t v ht hv => hval j t v (by simpa using ht) (by simpa using hv)) types
 obtain ⟨m, hm⟩ := pure_ hok
 have hc := tree_bool env0 hm (w := W) trivial hl hx
 have hA1 := hA
 obtain ⟨v0, vs0, d0, ds0, p0, q0, hargs, rfl, rfl, g0, r0⟩ := trodAll_cons hA
 obtain ⟨rfl, rfl, rfl⟩ := trodAll_nil r0
 obtain ⟨rfl, rfl⟩ := trodVars_none hV
 have hc2 : Calls Try.prog 5 args W fun e W' => e = .returned (.bool true) ∧ Below W.heap.size W W' := by simpa using hc
 refine hc2.mono fun e W' ⟨he, bel⟩ => ?_
 subst he
 exact ⟨_, rfl, _, _, _, [], _, [], hW', trodAll_mk1 (shut_bool Try.underlying4 _), trodAll_stays laidOut bel readable hA1, rfl, bel.frame _, fun h => by cases h⟩
theorem over : Rows.fnNextRow.holds Try.pinned (OpenSpec.ofChange Rows.fnNextSpec) :=
 OpenClaim.holds_of_wide 5 Try.f5 rfl rfl rfl rfl rfl rfl rfl ⟨rfl, rfl, rfl, rfl, rfl⟩ rfl rfl rfl rfl rfl (by kernel_rfl) Try.func5 (by kernel_rfl)
  (of_decide_eq_true (by kernel_rfl)) (by unfold Func.isWrapper; first | (rw [if_pos (by decide +kernel)]; kernel_rfl) | (rw [if_neg (by decide +kernel)]; exact ⟨rfl, rfl⟩))
  (fun os started H enc _ => lifted os started H enc)
theorem proved : Rows.FnNextSaid := over
#print axioms proved
end Go.Proofs.Ytejjggnchdldoaa.fnNext
namespace Go.Proofs.Ytejjggnchdldoaa
theorem fnNext_holds : Rows.FnNextSaid := fnNext.proved
end Go.Proofs.Ytejjggnchdldoaa
