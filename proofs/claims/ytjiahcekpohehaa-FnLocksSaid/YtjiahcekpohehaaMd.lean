/- What the proof needs, part 4: a sound evaluator over trees, the program's functions on it, and what they come to. -/
import Derived.Test.YtjiahcekpohehaaMc
import Derived.Lib.SplitLaws
import Derived.Lib.IndexAny
import Derived.Lib.ValidLaws
import Derived.Lib.TrimUEq
import Derived.Lib.MapLaws
set_option linter.unusedVariables false
set_option linter.unusedSimpArgs false
namespace Go.Proofs.Ytjiahcekpohehaa.Abs
section
open Go
inductive Sel : List Ck → List Ck → Prop
 | nil {L : List Ck} : Sel L []
 | cons {L L1 L' : List Ck} {c : Ck} : Pk L c L1 → Sel L1 L' → Sel L (c :: L')
 | rest {L : List Ck} : Sel L L
 | skip {L L' : List Ck} {c : Ck} : Sel L L' → Sel (c :: L) L'
theorem N8 {a0 a1 : Ck} {L : List Ck} : Sel (a0 :: a1 :: L) L := .skip (.skip (.rest))
theorem zS3 {a0 a1 a2 : Ck} {L : List Ck} : Sel (a0 :: a1 :: a2 :: L) L := .skip (.skip (.skip (.rest)))
theorem zS4 {a0 a1 a2 a3 : Ck} {L : List Ck} : Sel (a0 :: a1 :: a2 :: a3 :: L) L := .skip (.skip (.skip (.skip (.rest))))
theorem zS5 {a0 a1 a2 a3 a4 : Ck} {L : List Ck} : Sel (a0 :: a1 :: a2 :: a3 :: a4 :: L) L := .skip (.skip (.skip (.skip (.skip (.rest)))))
theorem zS8 {a0 a1 a2 a3 a4 a5 a6 a7 : Ck} {L : List Ck} : Sel (a0 :: a1 :: a2 :: a3 :: a4 :: a5 :: a6 :: a7 :: L) L := .skip (.skip (.skip (.skip (.skip (.skip (.skip (.skip (.rest))))))))
theorem Ip {a0 a1 a2 a3 a4 a5 a6 a7 a8 : Ck} {L : List Ck} : Sel (a0 :: a1 :: a2 :: a3 :: a4 :: a5 :: a6 :: a7 :: a8 :: L) L := .skip (.skip (.skip (.skip (.skip (.skip (.skip (.skip (.skip (.rest)))))))))
section
variable {β : Type} {n : Nat} {H : Ac} {L L' L1 L2 : List Ck} {G : Option β → Prop} {K : AV → Option β} {KH : KO β}
theorem Sep.none (h : Sep H L) : Sep H [] := by
 induction L with
 | nil => exact h
 | cons c L ih => exact ih h.tail
theorem Sel.sepI : ∀ {L L' : List Ck} {I : List Nat}, Sel L L' → SepI H L I → ∃ J X, SepI H L' J ∧ I.Perm (J ++ X)
 | _, _, I, .nil, h => ⟨[], I, rfl, List.Perm.refl _⟩
 | _, _, I, .rest, h => ⟨I, [], h, by simp⟩
 | _, _, I, .skip q, h => by
  obtain ⟨J, R, rfl, g1, g2⟩ := h
  obtain ⟨J', X, e1, e2⟩ := q.sepI g2
  refine ⟨J', J ++ X, e1, ?_⟩
  refine (List.Perm.append_left J e2).trans ?_
  rw [← List.append_assoc, ← List.append_assoc]
  exact List.Perm.append_right X List.perm_append_comm
 | _, _, I, .cons p q, h => by
  obtain ⟨J, R, g1, g2, g3⟩ := p.sepI h
  obtain ⟨J', X, e1, e2⟩ := q.sepI g2
  refine ⟨J ++ J', X, ⟨J, J', rfl, g1, e1⟩, ?_⟩
  rw [List.append_assoc]
  exact g3.trans (List.Perm.append_left J e2)
theorem Sep.sel (h : Sep H L) (q : Sel L L') : Sep H L' := by
 obtain ⟨I, h1, h2⟩ := h
 obtain ⟨J, X, g1, g2⟩ := q.sepI h1
 exact ⟨J, g1, (List.nodup_append.1 (g2.nodup_iff.1 h2)).1⟩
theorem Gd.bothE {r a b : Option β} (h1 : Gd (· = r) a) (h2 : Gd (· = r) b) : Gd (· = r) (Nt a b) := Og h1 h2
theorem U4 {α : Type} {w : Nat} {enc : α → List AV} {l pre t : List α} {x : α} {i : Int} (hi : i = (pre.length : Nat)) (hw : ∀ x, (enc x).length = w) (h0 : 0 < w) (hl : l = pre ++ x :: t) (h : Gd G (K (.rp (enc x ++ (t.map enc).flatten)))) : Gd G (E7 w (Al enc l) (.sc (.int .i64 i)) fun t => K t) := by
 subst hl
 subst hi
 exact Dv (Oy hw h0 pre x t _) h
theorem L0 {α : Type} {w : Nat} {enc : α → List AV} {l : List α} {i : Int} (hw : ∀ x, (enc x).length = w) (h0 : 0 < w) (hi : 0 ≤ i) (hl : i < (l.length : Nat)) (h : ∀ x rest, l[i.toNat]? = some x → Gd G (K (.rp (enc x ++ rest)))) : Gd G (E7 w (Al enc l) (.sc (.int .i64 i)) fun t => K t) := by
 have hlt : i.toNat < l.length := by omega
 refine U4 (pre := l.take i.toNat) (x := l[i.toNat]) (t := l.drop (i.toNat + 1)) (by simp; omega) hw h0 ?_ (h _ _ (List.getElem?_eq_getElem hlt))
 rw [← List.drop_eq_getElem_cons hlt, List.take_append_drop]
theorem Acq {l pre t : List Int} {x i : Int} (hi : i = (pre.length : Nat)) (hl : l = pre ++ x :: t) (h : Gd G (K (.rp (Th x ++ (t.map Th).flatten)))) : Gd G (E7 1 (Dn l) (.sc (.int .i64 i)) fun t => K t) := by
 rw [La]
 exact U4 hi (fun _ => rfl) (by decide) hl h
def bAt (s : ByteArray) (i : Int) : Int := ((s.data.toList.getD i.toNat 0).toNat : Nat)
theorem AbM (s : ByteArray) (i : Int) : 0 ≤ bAt s i ∧ bAt s i < 256 := by
 have := (s.data.toList.getD i.toNat 0).toNat_lt
 unfold bAt
 omega
theorem Ae8 {s : ByteArray} {i : Int} (h0 : 0 ≤ i) (h1 : i < (s.size : Nat)) (h : ∀ rest, Gd G (K (.rp (.sc (.int .u8 (bAt s i)) :: rest)))) : Gd G (E7 1 (Bj s) (.sc (.int .i64 i)) fun t => K t) := by
 have hlt : i.toNat < s.size := by omega
 have e : (Bh s).drop (i.toNat * 1) = .sc (.int .u8 (bAt s i)) :: (Bh s).drop (i.toNat + 1) := by
  rw [Nat.mul_one, List.drop_eq_getElem_cons (by rw [Ef]; omega)]
  congr 1
  simp [Bh, bAt, List.getD_eq_getElem?_getD, hlt]
 have e2 : (.sc (.int .i64 i) : AV) = .sc (.int .i64 (i.toNat : Nat)) := by
  rw [Int.toNat_of_nonneg h0]
 rw [e2]
 refine Dv (Oo 1 s.size (Bh s) i.toNat _ hlt (by rw [Ef]; omega)) ?_
 rw [e]
 exact h _
theorem Tb {α : Type} {enc : α → List AV} (l q : List α) : Al enc (l ++ q) = .ro (l.length + q.length) ((l.map enc).flatten ++ (q.map enc).flatten) := by
 show AV.ro _ _ = _
 rw [List.length_append, List.map_append, List.flatten_append]
theorem Ib {α : Type} {enc : α → List AV} {sz bytes ty : Nat} {cty : List Nat} {x : AV} {l : List α} {i : Nat} {raw cb : List AV} {a : Bool} {e : α} {L3 : List Ck} (hs : Sep H L) (hty : ∃ i j, At ty = some i ∧ At i.elem = some j ∧ j.size = sz ∧ j.cty = cty) (hx : Pk L (.own x ty (Al enc l)) L1) (hp : Pk L1 (.blk i raw a) L2) (hl : raw.length = sz) (hf : raw.all Aq = true) (hr : OwnR L2 raw cty cb L3) (hok : Eh (Gx At E0.tp 5) cty cb) (he : cb = enc e) (hb : (l.length + 1) * bytes ≤ 140737488355328)
  (h : ∀ x' H', Aq x' = true → Sep H' (.own x' ty (Al enc (l ++ [e])) :: L3) → Gd G (KH x' H')) : Gd G (Hh sz bytes x (.sl i 0 1 sz) H fun x H => KH x H) := by
 have e1 : (List.replicate 1 cty).flatten = cty := by simp
 refine W9 hs hty hx (Pd hp (by omega) hf (by rw [e1]; exact hr) (by rw [e1]; exact hok)) (by rw [e1]; exact hok) hb fun x' H' lx hs' => h x' H' lx ?_
 rw [Tb]
 simpa [he] using hs'
theorem Vr {ty : Nat} {cty : List Nat} {x : AV} {l : List Int} {i : Nat} {z : Int} {a : Bool} (hs : Sep H L) (hx : Pk L (.own x ty (Dn l)) L1) (hp : Pk L1 (.blk i [.sc (.int .i64 z)] a) L2) (hty : ∃ i j, At ty = some i ∧ At i.elem = some j ∧ j.size = 1 ∧ j.cty = cty) (hc : cty.length = 1) (hb : (l.length + 1) * 8 ≤ 140737488355328)
  (h : ∀ x' H', Aq x' = true → Sep H' (.own x' ty (Dn (l ++ [z])) :: L2) → Gd G (KH x' H')) : Gd G (Hh 1 8 x (.sl i 0 1 1) H fun x H => KH x H) := by
 obtain ⟨c, rfl⟩ := List.length_eq_one_iff.1 hc
 rw [La] at hx h
 exact Ib hs hty hx hp rfl rfl (.sc .nil) ⟨trivial, trivial⟩ rfl hb h
theorem Zw {f : Nat → AV → Option (AV × List Nat)} : ∀ {ts : List Nat} {xs cells : List AV} {I : List Nat} {k ty : Nat} {y t : AV}, Cm f ts xs = some (cells, I) → xs[k]? = some y → ts[k]? = some ty → cells[k]? = some t → ∃ J, f ty y = some (t, J) ∧ ∀ i ∈ J, i ∈ I
 | ts, [], cells, I, k, ty, y, t, h, hy, _, _ => by simp at hy
 | [], _ :: _, _, _, _, _, _, _, h, _, _, _ => by simp [Cm] at h
 | t0 :: ts, x :: xs, cells, I, k, ty, y, t, h, hy, ht, hc => by
  obtain ⟨a, b, h1, h2, e⟩ := Fd h
  cases e
  cases k with
  | zero =>
   simp only [List.getElem?_cons_zero, Option.some.injEq] at hy ht hc
   subst hy
   subst ht
   subst hc
   exact ⟨a.2, h1, fun i hi => List.mem_append_left _ hi⟩
  | succ k =>
   obtain ⟨J, g1, g2⟩ := Zw (cells := b.1) (I := b.2) h2 (by simpa using hy) (by simpa using ht) (by simpa using hc)
   exact ⟨J, g1, fun i hi => List.mem_append_right _ (g2 i hi)⟩
theorem AeS {α : Type} {enc : α → List AV} {sz bytes ty : Nat} {cty : List Nat} {x : AV} {l : List α} {i k ty' : Nat} {y t' : AV} {raw cb : List AV} {a : Bool} {e : α} {L3 : List Ck} (hs : Sep H L) (hty : ∃ i j, At ty = some i ∧ At i.elem = some j ∧ j.size = sz ∧ j.cty = cty) (hx : Pk L (.own x ty (Al enc l)) L1) (hp : Pk L1 (.blk i raw a) L2) (hl : raw.length = sz) (hf : raw.all Aq = true) (hr : OwnR L2 raw cty cb L3) (hok : Eh (Gx At E0.tp 5) cty cb) (he : cb = enc e) (hb : (l.length + 1) * bytes ≤ 140737488355328)
  (hw : ∀ x, (enc x).length = sz) (hc : cty.length = sz) (hk : raw[k]? = some y) (hk2 : cty[k]? = some ty') (hk3 : cb[k]? = some t') (hok5 : Gx At E0.tp 6 ty' t')
  (h : ∀ x' H', Aq x' = true → Sep H' (.shr x' ty (Al enc (l ++ [e])) y ty' t' :: L3) → Gd G (KH x' H')) : Gd G (Hh sz bytes x (.sl i 0 1 sz) H fun x H => KH x H) := by
 have e1 : (List.replicate 1 cty).flatten = cty := by simp
 have hblk := (hs.pick hx).tail.blk hp
 obtain ⟨ti, tj, t1, t2, t3, t4⟩ := hty
 refine AcH hs ⟨ti, tj, t1, t2, t3, t4⟩ hx (Pd hp (by omega) hf (by rw [e1]; exact hr) (by rw [e1]; exact hok)) (by rw [e1]; exact hok) hb fun x' H' lx hs' ⟨id, cx, cy, q1, q2, q3, q4⟩ => h x' H' lx ?_
 have hcy : cy = raw := by
  have : C5 H sz (.sl i 0 1 sz) = some raw := by
   show (if sz = sz then Ba H i 0 (1 * sz) else none) = _
   simp only [if_true, Ba, hblk, Nat.one_mul, Nat.zero_add, List.drop_zero, ← hl, Nat.le_refl, List.take_length]
  rw [this] at q3
  exact (Option.some.inj q3).symm
 subst hcy
 obtain ⟨I, ⟨J, R, rfl, ⟨h0, h1, h2⟩, h3⟩, h4⟩ := hs'
 have hrow : AV.ro (l.length + 1) ((l.map enc).flatten ++ cb) = Al enc (l ++ [e]) := by
  rw [Tb]
  simp [he]
 rw [hrow] at h1 h2
 refine ⟨J ++ R, ⟨J, R, rfl, ⟨⟨h0, h1, h2⟩, hok5, ?_⟩, h3⟩, h4⟩
 rw [← hrow] at h2
 rcases Lw t1 t2 h2 with ⟨rfl, _⟩ | ⟨id', off, raw', J', b, p1, p2, p3, p4, p5, p6, p7⟩
 ·cases q1
 ·rw [q1] at p1
  cases p1
  rw [q2] at p3
  cases p3
  have hraw : raw' = cx ++ cy := by
   have hlen : (cx ++ cy).length = (l.length + 1) * tj.size := by rw [List.length_append, q4, hl, t3, Nat.add_mul, Nat.one_mul]
   simp only [Ba, q2, if_true, Nat.zero_add, List.drop_zero] at p6
   rw [if_pos (by rw [hlen]; exact Nat.le_refl _), ← hlen, List.take_length] at p6
   exact (Option.some.inj p6).symm
  subst hraw
  have hlk : k < cy.length := (List.getElem?_eq_some_iff.1 hk).1
  obtain ⟨J2, g1, g2⟩ := Zw (k := l.length * tj.size + k) (ty := ty') (y := y) (t := t') p7 (by
   rw [List.getElem?_append_right (by omega), q4, Nat.add_sub_cancel_left]
   exact hk) (by
   rw [List.replicate_succ', List.flatten_append, List.getElem?_append_right (by simp [t4, hc])]
   simp [t4, hc, hk2]) (by
   have hlr := Fg hw l
   rw [List.getElem?_append_right (by omega), hlr, Nat.add_sub_cancel_left]
   exact hk3)
  exact ⟨J2, Hy 5 6 ty' y t' J2 g1 hok5, fun z hz => by rw [p2]; exact List.mem_cons_of_mem _ (g2 z hz)⟩
theorem AgN {α : Type} {enc : α → List AV} {sz bytes ty : Nat} {cty : List Nat} {x y : AV} {l q : List α} (hs : Sep H L) (hty : ∃ i j, At ty = some i ∧ At i.elem = some j ∧ j.size = sz ∧ j.cty = cty) (hx : Pk L (.own x ty (Al enc l)) L1) (hy : Src H L1 sz cty y q.length (q.map enc).flatten L2) (hok : Eh (Gx At E0.tp 5) (List.replicate q.length cty).flatten (q.map enc).flatten) (hb : (l.length + q.length) * bytes ≤ 140737488355328)
  (h : ∀ x' H', Aq x' = true → Sep H' (.own x' ty (Al enc (l ++ q)) :: L2) → Gd G (KH x' H')) : Gd G (Hh sz bytes x y H fun x H => KH x H) := by
 refine W9 hs hty hx hy hok hb fun x' H' lx hs' => h x' H' lx ?_
 rw [Tb]
 exact hs'
theorem Ag1 {sz bytes m ty : Nat} {cty : List Nat} {y : AV} {cb : List AV} (hs : Sep H L) (hty : ∃ i j, At ty = some i ∧ At i.elem = some j ∧ j.size = sz ∧ j.cty = cty) (hy : Src H L sz cty y m cb L2) (hok : Eh (Gx At E0.tp 5) (List.replicate m cty).flatten cb) (hb : m * bytes ≤ 140737488355328)
  (h : ∀ x' H', Aq x' = true → Sep H' (.own x' ty (.ro m cb) :: L2) → Gd G (KH x' H')) : Gd G (Hh sz bytes .nl y H fun x H => KH x H) := by
 obtain ⟨i, j, e1, e2, e3, e4⟩ := hty
 refine W9 (hs.nl (ty := ty) ⟨i, j, e1, e2⟩) ⟨i, j, e1, e2, e3, e4⟩ .here hy hok (by rw [Nat.zero_add]; exact hb) fun x' H' lx hs' => h x' H' lx ?_
 rw [Nat.zero_add, List.nil_append] at hs'
 exact hs'
theorem Rt {d : Nat} : ∀ {ts : List Nat} {l : List AV}, ts.length = l.length → l.all R7 = true → Eh (Gx At E0.tp (d + 1)) ts l
 | [], [], _, _ => trivial
 | t :: ts, x :: l, h, hl => by
  rw [List.all_cons, Bool.and_eq_true] at hl
  refine ⟨?_, Rt (by simpa using h) hl.2⟩
  cases x with
  | sc v => trivial
  | _ => simp [R7] at hl
 | [], _ :: _, h, _ => by simp at h
 | _ :: _, [], h, _ => by simp at h
theorem W7 (s : ByteArray) : (Bh s).all R7 = true := by
 simp only [Bh, List.all_map, List.all_eq_true]
 intro b _
 rfl
theorem AeX {cty : List Nat} {w m : Nat} (h : cty.length = w) : ((List.replicate m cty).flatten).length = m * w := by simp [h]
theorem Af7 {s : ByteArray} (hs : Sep H L) (hb : s.size ≤ 140737488355328) (h : ∀ x' H', Aq x' = true → Sep H' (.own x' 22 (Bj s) :: L) → Gd G (KH x' H')) : Gd G (Hh 1 1 .nl (Bj s) H fun x H => KH x H) :=
 Ag1 hs ⟨_, _, rfl, rfl, rfl, rfl⟩ (AgU rfl (by rw [Ef]; omega) (W7 s)) (Rt (by rw [AeX (w := 1) rfl, Ef, Nat.mul_one]) (W7 s)) (by omega) h
end
end
section
open Go
section
variable {β : Type} {n : Nat} {H : Ac} {L L' L1 L2 : List Ck} {G : Option β → Prop} {K : AV → Option β} {KH : KO β}
theorem Qi {d : Nat} : ∀ {ts : List Nat} {l : List AV}, ts.length = l.length → l.all R7 = true → Cm (B6 At E0.tp H (d + 1)) ts l = some (l, [])
 | [], [], _, _ => rfl
 | t :: ts, x :: l, h, hl => by
  rw [List.all_cons, Bool.and_eq_true] at hl
  cases x with
  | sc v =>
   rw [Cm, Gt, Option.bind_some, Qi (by simpa using h) hl.2]
   rfl
  | _ => simp [R7] at hl
 | [], _ :: _, h, _ => by simp at h
 | _ :: _, [], h, _ => by simp at h
theorem Sep.closeR {sz m ty id : Nat} {pre cells post : List AV} (hty : ∃ i j, At ty = some i ∧ At i.elem = some j ∧ j.size = sz ∧ j.cty.length = sz) (hs : Sep H (.blk id (pre ++ (cells ++ post)) true :: L)) (hf : cells.all R7 = true) (hl : cells.length = m * sz) : Sep H (.own (.sl id pre.length m sz) ty (.ro m cells) :: L) := by
 obtain ⟨i, j, e1, e2, rfl, e4⟩ := hty
 obtain ⟨I, ⟨J, R, rfl, ⟨rfl, h1⟩, h2⟩, h3⟩ := hs
 have hlen : ((List.replicate m j.cty).flatten).length = cells.length := by simp [e4, hl]
 refine ⟨[id] ++ R, ⟨[id], R, rfl, ⟨rfl, ⟨i, j, e1, e2, hl, Rt hlen hf⟩, ?_⟩, h2⟩, h3⟩
 rw [Fz]
 have ha : Fx H id = true := by simp only [Fx, h1]
 have hrd : Ba H id pre.length (m * j.size) = some cells := by
  simp only [Ba, h1, if_true]
  rw [if_pos (by simp only [List.length_append]; omega), List.drop_left', ← hl, List.take_left']
  ·rfl
  ·rfl
 simp only [e1, e2, Option.bind_some, if_true, ha, hrd, Qi (d := 4) hlen hf]
theorem Ol {w m o d : Nat} {z : Int} {K : AV → Option β} (h0 : 0 ≤ z) (h1 : z < m) (hk : Gd G (K (.ptr d (o + z.toNat * w)))) : Gd G (E7 w (.sl d o m w) (.sc (.int .i64 z)) fun t => K t) := by
 have e := Aei w m d o z.toNat (fun t => K t) (by omega)
 rw [show ((z.toNat : Nat) : Int) = z by omega] at e
 exact Dv e hk
end
end
section
open Go
section
variable {β : Type} {n : Nat} {H : Ac} {L L' L1 L2 : List Ck} {G : Option β → Prop} {K : AV → Option β} {KH : KO β}
theorem Ug {d : Nat} : ∀ {ts : List Nat} {xs cells : List AV} {I : List Nat} {k : Nat} {v : Value}, Cm (B6 At E0.tp H d) ts xs = some (cells, I) → cells[k]? = some (.sc v) → xs[k]? = some (.sc v)
 | ts, [], cells, I, k, v, h, hk => by
  obtain ⟨_, e⟩ := Iz h
  cases e
  simp at hk
 | [], _ :: _, _, _, _, _, h, _ => by simp [Cm] at h
 | t :: ts, x :: xs, cells, I, k, v, h, hk => by
  obtain ⟨a, b, h1, h2, e⟩ := Fd h
  cases e
  cases k with
  | zero =>
   obtain ⟨a1, a2⟩ := a
   have : a1 = .sc v := by simpa using hk
   subst this
   rw [Yv h1]
   rfl
  | succ k => simpa using Ug h2 (by simpa using hk)
end
end
section
open Go
section
variable {β : Type} {n : Nat} {H : Ac} {L L' L1 L2 : List Ck} {G : Option β → Prop} {K : AV → Option β} {KH : KO β}
def Ag8 : List AV → List Nat → List AV → List (AV × Nat × AV)
 | x :: xs, t :: ts, c :: cs => (x, t, c) :: Ag8 xs ts cs
 | _, _, _ => []
theorem J7 {f : Nat → AV → Option (AV × List Nat)} : ∀ {ts1 ts2 : List Nat} {xs cells : List AV} {I : List Nat}, Cm f (ts1 ++ ts2) xs = some (cells, I) → ts1.length ≤ xs.length → ∃ I1 I2, Cm f ts1 (xs.take ts1.length) = some (cells.take ts1.length, I1) ∧ Cm f ts2 (xs.drop ts1.length) = some (cells.drop ts1.length, I2) ∧ (∀ i ∈ I1, i ∈ I) ∧ ∀ i ∈ I2, i ∈ I
 | [], ts2, xs, cells, I, h, _ => ⟨[], I, by simp [Cm], by simpa using h, by simp, fun i hi => hi⟩
 | t :: ts1, ts2, [], cells, I, h, hl => by simp at hl
 | t :: ts1, ts2, x :: xs, cells, I, h, hl => by
  obtain ⟨a, b, h1, h2, e⟩ := Fd h
  cases e
  obtain ⟨I1, I2, g1, g2, g3, g4⟩ := J7 (ts1 := ts1) (ts2 := ts2) h2 (by simpa using hl)
  refine ⟨a.2 ++ I1, I2, ?_, ?_, ?_, ?_⟩
  ·show Cm f (t :: ts1) (x :: xs.take ts1.length) = some (a.1 :: b.1.take ts1.length, a.2 ++ I1)
   rw [Cm, h1, Option.bind_some, g1]
   rfl
  ·simpa using g2
  ·intro i hi
   rcases List.mem_append.1 hi with hi | hi
   ·exact List.mem_append_left _ hi
   ·exact List.mem_append_right _ (g3 i hi)
  ·intro i hi
   exact List.mem_append_right _ (g4 i hi)
theorem Um {d : Nat} {I0 : List Nat} : ∀ {ts : List Nat} {xs cells : List AV} {I : List Nat}, Cm (B6 At E0.tp H d) ts xs = some (cells, I) → Eh (Gx At E0.tp 6) ts cells → (∀ i ∈ I, i ∈ I0) → ∀ q ∈ Ag8 xs ts cells, Gx At E0.tp 6 q.2.1 q.2.2 ∧ ∃ J, B6 At E0.tp H 6 q.2.1 q.1 = some (q.2.2, J) ∧ ∀ i ∈ J, i ∈ I0
 | ts, [], cells, I, h, _, _ => by intro q hq; cases ts <;> cases hq
 | [], _ :: _, _, _, h, _, _ => by simp [Cm] at h
 | t :: ts, x :: xs, cells, I, h, ho, hI => by
  obtain ⟨a, b, h1, h2, e⟩ := Fd h
  cases e
  intro q hq
  rcases List.mem_cons.1 hq with rfl | hq
  ·exact ⟨ho.1, a.2, Hy d 6 t x a.1 a.2 h1 ho.1, fun i hi => hI i (List.mem_append_left _ hi)⟩
  ·exact Um h2 ho.2 (fun i hi => hI i (List.mem_append_right _ hi)) q hq
theorem Gq {f : Nat → AV → Prop} : ∀ {ts1 ts2 : List Nat} {cs : List AV}, Eh f (ts1 ++ ts2) cs → Eh f ts1 (cs.take ts1.length) ∧ Eh f ts2 (cs.drop ts1.length)
 | [], ts2, cs, h => ⟨by simp [Eh], by simpa using h⟩
 | t :: ts1, ts2, [], h => by cases h
 | t :: ts1, ts2, c :: cs, h => by
  obtain ⟨g1, g2⟩ := Gq (ts1 := ts1) h.2
  exact ⟨⟨h.1, g1⟩, by simpa using g2⟩
theorem W1 {α : Type} {enc : α → List AV} {w ty : Nat} {cty : List Nat} {x : AV} {l : List α} {y : α} {i : Int} {ys : List (AV × Nat × AV)} (hs : Sep H L) (hty : ∃ i j, At ty = some i ∧ At i.elem = some j ∧ j.size = w ∧ j.cty = cty) (hp : Pk L (.shs x ty (Al enc l) ys) L1)
  (hi : 0 ≤ i) (hy : l[i.toNat]? = some y) (hw : ∀ x, (enc x).length = w) (hf : ∀ x, (enc x).all Ix = true) (hc : cty.length = w)
  (h : ∀ id off raw, raw.length = w → raw.all Aq = true → Ba H id off w = some raw → (∀ (k : Nat) (v : Value), (enc y)[k]? = some (AV.sc v) → raw[k]? = some (AV.sc v)) → Sep H (.shs x ty (Al enc l) (Ag8 raw cty (enc y) ++ ys) :: L1) → Gd G (K (.ptr id off))) : Gd G (E7 w x (.sc (.int .i64 i)) fun t => K t) := by
 obtain ⟨ti, tj, e1, e2, rfl, rfl⟩ := hty
 obtain ⟨I, ⟨J, R, rfl, ⟨⟨hlf, hok, e⟩, hys⟩, h2⟩, h3⟩ := hs.pick hp
 have hlt : i.toNat < l.length := (List.getElem?_eq_some_iff.1 hy).1
 rcases Lw e1 e2 e with ⟨rfl, h0, _, _⟩ | ⟨id, off, raw, J', b, rfl, rfl, hb, hlv, ha, h4, h5⟩
 ·omega
 ·obtain ⟨hl, b', hb', _, hle, hcs⟩ := Hj h4
  rw [hb] at hb'
  cases hb'
  have hm : (i.toNat + 1) * tj.size ≤ l.length * tj.size := Nat.mul_le_mul_right _ hlt
  have hrep : (List.replicate l.length tj.cty).flatten = (List.replicate i.toNat tj.cty).flatten ++ (tj.cty ++ (List.replicate (l.length - i.toNat - 1) tj.cty).flatten) := by
   rw [show l.length = i.toNat + (1 + (l.length - i.toNat - 1)) by omega, ← List.replicate_append_replicate, ← List.replicate_append_replicate, List.flatten_append, List.flatten_append]
   simp
  have hl1 : ((List.replicate i.toNat tj.cty).flatten).length = i.toNat * tj.size := by simp [hc]
  rw [hrep] at h5
  obtain ⟨I1, I2, g1, g2, g3, g4⟩ := J7 h5 (by rw [hl1, hl, Nat.add_mul] at *; omega)
  obtain ⟨I3, I4, k1, k2, k3, k4⟩ := J7 g2 (by rw [List.length_drop, hl1, hl, hc]; rw [Nat.add_mul] at hm; omega)
  rw [hl1, hc] at k1
  have hcell : (((l.map enc).flatten).drop (i.toNat * tj.size)).take tj.size = enc y := by
   obtain ⟨_, hey⟩ := List.getElem?_eq_some_iff.1 hy
   have hsplit : l = l.take i.toNat ++ y :: l.drop (i.toNat + 1) := by
    rw [← hey, ← List.drop_eq_getElem_cons hlt, List.take_append_drop]
   have hpre : ((l.take i.toNat).map enc).flatten.length = i.toNat * tj.size := by
    rw [Fg hw, List.length_take, Nat.min_eq_left (Nat.le_of_lt hlt)]
   rw [hsplit, List.map_append, List.flatten_append, List.map_cons, List.flatten_cons]
   have e0 : (l.take i.toNat ++ y :: l.drop (i.toNat + 1)).take i.toNat = l.take i.toNat := by rw [← hsplit]
   rw [List.drop_append_of_le_length (by omega), ← hpre, List.drop_length, List.nil_append, List.take_append_of_le_length (by rw [hw]; exact Nat.le_refl _), ← hw y, List.take_length]
  rw [hcell] at k1
  have hokE : Eh (Gx At E0.tp 6) tj.cty (enc y) := by
   obtain ⟨i', j', q1, q2, q3, q4⟩ := hok
   rw [e1] at q1
   cases q1
   rw [e2] at q2
   cases q2
   rw [hrep] at q4
   have q5 := (Gq (Gq q4).2).1
   rw [hl1, hc] at q5
   show Eh (Gx At E0.tp 6) tj.cty (enc y)
   have hcell' : (((Al enc l |> fun _ => (l.map enc).flatten)).drop (i.toNat * tj.size)).take tj.size = enc y := hcell
   rw [← hcell]
   exact Aay q5 (by decide)
  have hrd : Ba H id (off + i.toNat * tj.size) tj.size = some ((raw.drop (i.toNat * tj.size)).take tj.size) := by
   simp only [Ba, hb, hlv, if_true]
   rw [Nat.add_mul] at hm
   rw [if_pos (by omega), hcs, List.drop_take, List.take_take, List.drop_drop, Nat.min_eq_left (by omega)]
  have hrl : ((raw.drop (i.toNat * tj.size)).take tj.size).length = tj.size := by
   rw [List.length_take, List.length_drop, hl]
   rw [Nat.add_mul] at hm
   omega
  refine Ol hi (by omega) ?_
  refine h id _ _ hrl (Qe (fun t x a I h hl => Xk h hl) k1 (hf y)) hrd (fun k v hk => Ug k1 hk) ⟨(id :: J') ++ R, ⟨id :: J', R, rfl, ⟨⟨hlf, hok, e⟩, fun q hq => ?_⟩, h2⟩, h3⟩
  rcases List.mem_append.1 hq with hq | hq
  ·exact Um k1 hokE (fun i hi => List.mem_cons_of_mem _ (g4 i (k3 i hi))) q hq
  ·exact hys q hq
theorem Rp {id o w : Nat} {cs : List AV} (e : Ba H id o w = some cs) (h : Gd G (K (.agg cs))) : Gd G (C2 true w (.ptr id o) H fun x => K x) := Dv (ldT e _) h
def O6 (s : ByteArray) (b : Int) : ByteArray := s.push (UInt8.ofNat b.toNat)
theorem Co (s : ByteArray) (b : Int) : (O6 s b).size = s.size + 1 := by
 unfold O6
 exact ByteArray.size_push
theorem Zc (s : ByteArray) (b : Int) (h0 : 0 ≤ b) (h1 : b < 256) : Bj (O6 s b) = .ro (s.size + 1) (Bh s ++ [.sc (.int .u8 b)]) := by
 show AV.ro (O6 s b).size (Bh (O6 s b)) = _
 rw [Co]
 congr 1
 have e : ((UInt8.ofNat b.toNat).toNat : Int) = b := by
  rw [UInt8.toNat_ofNat']
  omega
 unfold Bh O6
 rw [ByteArray.data_push, Array.toList_push, List.map_append, List.map_cons, List.map_nil, e]
theorem AeT {ty : Nat} {cty : List Nat} {x : AV} {s : ByteArray} {i : Nat} {z : Int} {a : Bool} (hs : Sep H L) (hx : Pk L (.own x ty (Bj s)) L1) (hp : Pk L1 (.blk i [.sc (.int .u8 z)] a) L2) (hty : ∃ i j, At ty = some i ∧ At i.elem = some j ∧ j.size = 1 ∧ j.cty = cty) (hc : cty.length = 1) (hb : 0 ≤ z ∧ z < 256 ∧ s.size + 1 ≤ 140737488355328)
  (h : ∀ x' H', Aq x' = true → Sep H' (.own x' ty (Bj (O6 s z)) :: L2) → Gd G (KH x' H')) : Gd G (Hh 1 1 x (.sl i 0 1 1) H fun x H => KH x H) := by
 obtain ⟨c, rfl⟩ := List.length_eq_one_iff.1 hc
 have e1 : (List.replicate 1 [c]).flatten = [c] := by simp
 rw [Zc s z hb.1 hb.2.1] at h
 exact W9 (m := 1) (cb := [.sc (.int .u8 z)]) hs hty hx (Pd hp rfl rfl (by rw [e1]; exact .sc .nil) (by rw [e1]; exact ⟨trivial, trivial⟩)) (by rw [e1]; exact ⟨trivial, trivial⟩) (by omega) fun x' H' lx hs' => h x' H' lx hs'
theorem Ags {k k' : IntKind} {a z : Int} {K : AV → Option β} (hz : k.wrap a = z) (h : Gd G (K (.sc (.int k z)))) : Gd G (Wu k (.sc (.int k' a)) fun t => K t) := by
 subst hz
 exact h
theorem Ac1 {a : Int} (h0 : 0 ≤ a) (h1 : a < 256) : IntKind.u8.wrap a = a := by
 simp only [IntKind.wrap, IntKind.bits, IntKind.signed]
 simp
 omega
end
end
section
open Go
section
variable {β : Type} {n : Nat} {H : Ac} {L L' L1 L2 : List Ck} {G : Option β → Prop} {K : AV → Option β} {KH : KO β}
theorem U2 {cty : List Nat} {m a b : Nat} (ha : a ≤ b) (hb : b ≤ m) : (List.replicate m cty).flatten = (List.replicate a cty).flatten ++ ((List.replicate (b - a) cty).flatten ++ (List.replicate (m - b) cty).flatten) := by
 rw [show m = a + ((b - a) + (m - b)) by omega, ← List.replicate_append_replicate, ← List.replicate_append_replicate, List.flatten_append, List.flatten_append]
 congr 4
 omega
def AcO (w : Nat) (x : AV) (a b : Nat) (y : AV) : Prop := (x = .nl ∧ y = .nl) ∨ ∃ id off m, x = .sl id off m w ∧ y = .sl id (off + a * w) (b - a) w
theorem Adh {sz m ty a b : Nat} {cty : List Nat} {x : AV} {cells : List AV} {ys : List (AV × Nat × AV)} {lo hi : Option AV} (hs : Sep H L) (hty : ∃ i j, At ty = some i ∧ At i.elem = some j ∧ j.size = sz ∧ j.cty = cty) (hp : Pk L (.shs x ty (.ro m cells) ys) L1)
  (hlo : Jp lo 0 = some ((a : Nat) : Int)) (hhi : Jp hi m = some ((b : Nat) : Int)) (hab : a ≤ b) (hb : b ≤ m) (hc : cty.length = sz)
  (h : ∀ y, Aq y = true → AcO sz x a b y → Sep H (.shs x ty (.ro m cells) ((y, ty, .ro (b - a) ((cells.drop (a * sz)).take ((b - a) * sz))) :: ys) :: L1) → Gd G (K y)) : Gd G (Jz sz x lo hi fun t => K t) := by
 obtain ⟨ti, tj, e1, e2, rfl, rfl⟩ := hty
 obtain ⟨I, ⟨J, R, rfl, ⟨⟨hlf, hok, e⟩, hys⟩, h2⟩, h3⟩ := hs.pick hp
 have hcl : cells.length = m * tj.size ∧ Eh (Gx At E0.tp 5) (List.replicate m tj.cty).flatten cells := by
  obtain ⟨i', j', q1, q2, q3, q4⟩ := hok
  rw [e1] at q1
  cases q1
  rw [e2] at q2
  cases q2
  exact ⟨q3, q4⟩
 have hrl : ∀ k, ((List.replicate k tj.cty).flatten).length = k * tj.size := fun k => by simp [hc]
 have hm1 : a * tj.size ≤ b * tj.size := Nat.mul_le_mul_right _ hab
 have hm2 : b * tj.size ≤ m * tj.size := Nat.mul_le_mul_right _ hb
 have hm3 : (b - a) * tj.size = b * tj.size - a * tj.size := Nat.sub_mul ..
 have hokP : Gx At E0.tp 6 ty (.ro (b - a) ((cells.drop (a * tj.size)).take ((b - a) * tj.size))) := by
  refine ⟨ti, tj, e1, e2, ?_, ?_⟩
  ·rw [List.length_take, List.length_drop, hcl.1]
   omega
  ·have q := hcl.2
   rw [U2 hab hb] at q
   have q2 := (Gq (Gq q).2).1
   rw [hrl, hrl] at q2
   exact q2
 have fin : ∀ y JP, Aq y = true → AcO tj.size x a b y → B6 At E0.tp H 6 ty y = some (.ro (b - a) ((cells.drop (a * tj.size)).take ((b - a) * tj.size)), JP) → (∀ i ∈ JP, i ∈ J) → Gd G (K y) := by
  intro y JP hy1 hq hy hJ
  refine h y hy1 hq ⟨J ++ R, ⟨J, R, rfl, ⟨⟨hlf, hok, e⟩, fun q hq => ?_⟩, h2⟩, h3⟩
  rcases List.mem_cons.1 hq with rfl | hq
  ·exact ⟨hokP, JP, hy, hJ⟩
  ·exact hys q hq
 rcases Lw e1 e2 e with ⟨rfl, rfl, rfl, rfl⟩ | ⟨id, off, raw, J', bb, rfl, rfl, hbb, hlv, ha, h4, h5⟩
 ·have hb0 : b = 0 := by omega
  have ha0 : a = 0 := by omega
  subst hb0
  subst ha0
  refine Dv (b := K .nl) ?_ (fin .nl [] rfl (.inl ⟨rfl, rfl⟩) (by simp [B6]) (by simp))
  have hl0 : G2 .nl = some 0 := rfl
  simp only [Jz, hl0, hlo, hhi, Option.bind_some]
  rfl
 ·obtain ⟨hl, b', hb', _, hle, hcs⟩ := Hj h4
  rw [hbb] at hb'
  cases hb'
  rw [U2 hab hb] at h5
  obtain ⟨I1, I2, g1, g2, g3, g4⟩ := J7 h5 (by rw [hrl, hl]; omega)
  obtain ⟨I3, I4, k1, k2, k3, k4⟩ := J7 g2 (by rw [hrl, List.length_drop, hrl, hl]; omega)
  rw [hrl, hrl] at k1
  refine Dv (b := K (.sl id (off + a * tj.size) (b - a) tj.size)) ?_ (fin _ (id :: I3) rfl (.inr ⟨id, off, m, rfl, rfl⟩) ?_ ?_)
  ·have hl0 : G2 (.sl id off m tj.size) = some m := rfl
   simp only [Jz, hl0, hlo, hhi, Option.bind_some, if_true]
   rw [if_pos (by omega)]
   congr 2
   omega
  ·rw [Fz]
   have hap : Fx H id = true := by simp only [Fx, hbb]; exact ha
   have hrd : Ba H id (off + a * tj.size) ((b - a) * tj.size) = some ((raw.drop (a * tj.size)).take ((b - a) * tj.size)) := by
    simp only [Ba, hbb, hlv, if_true]
    rw [if_pos (by omega), hcs, List.drop_take, List.take_take, List.drop_drop, Nat.min_eq_left (by omega)]
   simp only [e1, e2, Option.bind_some, if_true, hap, hrd, k1]
  ·intro i hi
   rcases List.mem_cons.1 hi with rfl | hi
   ·exact List.mem_cons_self
   ·exact List.mem_cons_of_mem _ (g4 i (k3 i hi))
theorem Sn {α : Type} {enc : α → List AV} {w : Nat} (hw : ∀ x, (enc x).length = w) (l : List α) (a b : Nat) (hab : a ≤ b) (hb : b ≤ l.length) : (AV.ro (b - a) ((((l.map enc).flatten).drop (a * w)).take ((b - a) * w))) = Al enc ((l.drop a).take (b - a)) := by
 have h1 : (((l.map enc).flatten).drop (a * w)) = ((l.drop a).map enc).flatten := by
  have e : l = l.take a ++ l.drop a := (List.take_append_drop a l).symm
  have hp : ((l.take a).map enc).flatten.length = a * w := by rw [Fg hw, List.length_take, Nat.min_eq_left (by omega)]
  rw [e, List.map_append, List.flatten_append]
  have e0 : (l.take a ++ l.drop a).drop a = l.drop a := by rw [← e]
  rw [e0, List.drop_append_of_le_length (by omega), ← hp, List.drop_length, List.nil_append]
 have h2 : (((l.drop a).map enc).flatten).take ((b - a) * w) = (((l.drop a).take (b - a)).map enc).flatten := by
  have e : l.drop a = (l.drop a).take (b - a) ++ (l.drop a).drop (b - a) := (List.take_append_drop _ _).symm
  have hp : (((l.drop a).take (b - a)).map enc).flatten.length = (b - a) * w := by rw [Fg hw, List.length_take, List.length_drop, Nat.min_eq_left (by omega)]
  have e0 : ((l.drop a).take (b - a) ++ (l.drop a).drop (b - a)).take (b - a) = (l.drop a).take (b - a) := by rw [← e]
  rw [e, List.map_append, List.flatten_append, e0, List.take_append_of_le_length (by omega), ← hp, List.take_length]
 rw [h1, h2]
 show _ = AV.ro _ _
 rw [List.length_take, List.length_drop, Nat.min_eq_left (by omega)]
theorem Le {α : Type} {enc : α → List AV} {w ty : Nat} {a b : Int} {cty : List Nat} {x : AV} {l : List α} {ys : List (AV × Nat × AV)} {lo hi : Option AV} (hs : Sep H L) (hty : ∃ i j, At ty = some i ∧ At i.elem = some j ∧ j.size = w ∧ j.cty = cty) (hp : Pk L (.shs x ty (Al enc l) ys) L1)
  (hlo : Jp lo 0 = some a) (hhi : Jp hi l.length = some b) (h0 : 0 ≤ a) (hab : a ≤ b) (hb : b ≤ (l.length : Nat)) (hw : ∀ x, (enc x).length = w) (hc : cty.length = w)
  (h : ∀ y, Aq y = true → AcO w x a.toNat b.toNat y → Sep H (.shs x ty (Al enc l) ((y, ty, Al enc ((l.drop a.toNat).take (b.toNat - a.toNat))) :: ys) :: L1) → Gd G (K y)) : Gd G (Jz w x lo hi fun t => K t) := by
 obtain ⟨a', rfl⟩ : ∃ a' : Nat, a = a' := ⟨a.toNat, by omega⟩
 obtain ⟨b', rfl⟩ : ∃ b' : Nat, b = b' := ⟨b.toNat, by omega⟩
 refine Adh (cells := (l.map enc).flatten) hs hty hp hlo hhi (by omega) (by omega) hc fun y hy hq hs' => h y hy (by simpa using hq) ?_
 rw [Sn hw l a' b' (by omega) (by omega)] at hs'
 exact hs'
end
end
end Go.Proofs.Ytjiahcekpohehaa.Abs
set_option maxRecDepth 100000
namespace Go.Proofs.Ytjiahcekpohehaa.Abs
section
open Go
section
variable {β : Type} {n : Nat} {H : Ac} {L L' L1 L2 : List Ck} {G : Option β → Prop} {K : AV → Option β} {KH : KO β} {c : Nat} {code : ByteArray} {i : Nat} {h : Int}
abbrev Cr (c : Nat) (code : ByteArray) (i : Nat) (h : Int) : Ck := .blk c (cur code i h) true
theorem AfY (s : Sep H L) (p : Pk L (Cr c code i h) L1) : H[c]? = some (N0 code i h) := s.blk p
theorem Zx {ty : Nat} (hs : code.size ≤ 1048576) (s : Sep H L) (p : Pk L (Cr c code i h) L1)
  (hk : ∀ (x : Int) (i' : Nat) (h' : Int) (H' : Ac), 0 ≤ x ∧ x < 256 → Sep H' (Cr c code i' h' :: L1) → Gd G (KH (.sc (.int .i64 x)) H')) :
  Gd G ((PR (n + 1) β).call ty (.fn 65 [] []) [.ptr c 0] H fun x H => KH x H) := by
 obtain ⟨x, i', h', hx, hr⟩ := Vt (β := β) (n := n) c code hs i h (AfY s p) ty
 rw [hr]
 exact hk x i' h' _ (by omega) (s.put p (cur code i' h') true)
theorem D7 {ty : Nat} {m : Int} (hs : code.size ≤ 1048576) (hm : m ≤ 4294967296) (s : Sep H L) (p : Pk L (Cr c code i h) L1)
  (hk : ∀ (x : Int) (i' : Nat) (h' : Int) (H' : Ac), 0 ≤ x ∧ (0 < m → x < m) ∧ (m ≤ 0 → x = 0) → Sep H' (Cr c code i' h' :: L1) → Gd G (KH (.sc (.int .i64 x)) H')) :
  Gd G ((PR (n + 2) β).call ty (.fn 29 [] []) [.ptr c 0, .sc (.int .i64 m)] H fun x H => KH x H) := by
 by_cases h0 : m ≤ 0
 ·rw [Lu rfl rfl, Yl, f29]
  simp only [A9, Aw]
  refine AcF ?_
  refine C1 (by simp; omega) ?_
  exact hk 0 i h H ⟨by omega, by omega, fun _ => rfl⟩ (s.pick p)
 ·by_cases h1 : m ≤ 256
  ·obtain ⟨x, i', h', hx, hr⟩ := AaH (β := β) (n := n) c code hs i h (AfY s p) ty m.toNat (by omega) (by omega)
   rw [show ((m.toNat : Nat) : Int) = m by omega] at hr
   rw [hr]
   exact hk x i' h' _ ⟨by omega, by omega, by omega⟩ (s.put p (cur code i' h') true)
  ·rw [Lu rfl rfl, Yl, f29]
   simp only [A9, Aw]
   refine AcF ?_
   refine B3 (by simp; omega) ?_
   refine AcF ?_
   refine B3 (by simp; omega) ?_
   refine Zx hs s p fun x i1 k1 H1 hx s1 => ?_
   refine Zx hs s1 .here fun y i2 k2 H2 hy s2 => ?_
   refine Zx hs s2 .here fun z i3 k3 H3 hz s3 => ?_
   refine Aa0 (by omega) (by omega) ?_
   refine Aa0 (by omega) (by omega) ?_
   refine Eo (by omega) (by omega) ?_
   refine Eo (by omega) (by omega) ?_
   refine Ph (v := .sc (.int .i64 ((x * 65536 + y * 256 + z).tmod m))) (fun k => ?_) ?_
   ·show (Xs .rem .i64 (x * 65536 + y * 256 + z) m).bind (fun v => k (.sc v)) = _
    have e : Xs .rem .i64 (x * 65536 + y * 256 + z) m = some (.int .i64 ((x * 65536 + y * 256 + z).tmod m)) := by
     show (if m = 0 then none else some (Value.int .i64 ((x * 65536 + y * 256 + z).tmod m))) = _
     rw [if_neg (by omega)]
    rw [e]
    rfl
   have hnn : 0 ≤ x * 65536 + y * 256 + z := by omega
   have e := Int.tmod_eq_emod_of_nonneg (b := m) hnn
   have e1 := Int.emod_nonneg (x * 65536 + y * 256 + z) (show m ≠ 0 by omega)
   have e2 := Int.emod_lt_of_pos (x * 65536 + y * 256 + z) (show 0 < m by omega)
   exact hk _ i3 k3 H3 ⟨by rw [e]; exact e1, fun _ => by rw [e]; exact e2, by omega⟩ s3
theorem Dl {ty d m : Nat} {cs : List AV} {a : Bool} (hs : code.size ≤ 1048576) (hm : m ≤ 256) (h1 : 1 ≤ m) (hc : cs.length = m) (s : Sep H L) (p : Pk L (Cr c code i h) L1) (q : Pk L1 (.blk d cs a) L2)
  (hk : ∀ (x : AV) (i' : Nat) (h' : Int) (H' : Ac), x ∈ cs → Sep H' (Cr c code i' h' :: L1) → Gd G (KH x H')) :
  Gd G ((PR (n + 3) β).call ty (.fn 32 [] []) [.ptr c 0, .sl d 0 m 1] H fun x H => KH x H) := by
 rw [Lu rfl rfl, AgI, f32]
 simp only [Ca, Cc, A4]
 refine AcG ?_
 refine D7 hs (by omega) s p fun z i' h' H' hz s' => ?_
 refine Ol (by omega) (by omega) ?_
 have hlt : 0 + z.toNat * 1 < cs.length := by omega
 refine Ay (c := cs[0 + z.toNat * 1]) s' (.there q) (List.getElem?_eq_getElem hlt) ?_
 exact hk _ i' h' H' (List.getElem_mem hlt) s'
theorem AhW {ty : Nat} (hs : code.size ≤ 1048576) (hn : 4000 < n) (s : Sep H L) (hk : ∀ (c : Nat) (h : Int) (H' : Ac), Sep H' (Cr c code 0 h :: L) → Gd G (KH (.ptr c 0) H')) :
  Gd G ((PR (n + 1) β).call ty (.fn 26 [] []) [Bj code] H fun x H => KH x H) := by
 obtain ⟨h, hr⟩ := Aee (β := β) (n := n) (H := H) code hs hn ty
 show Gd G ((PR (n + 1) β).call ty (.fn 26 [] []) [.ro code.size (Bh code)] H fun x H => KH x H)
 rw [hr]
 exact hk _ h _ (s.new (J := [H.length]) ⟨rfl, by rw [List.getElem?_append_right (Nat.le_refl _), Nat.sub_self]; rfl⟩ (by simp) (by simp))
theorem A5 {x : AV} {l : List Int} {lo hi : Int} (h : x ∈ l.map fun z => AV.sc (.int .i64 z)) (hl : ∀ z ∈ l, lo ≤ z ∧ z ≤ hi) : ∃ z : Int, x = .sc (.int .i64 z) ∧ lo ≤ z ∧ z ≤ hi := by
 obtain ⟨z, h1, rfl⟩ := List.mem_map.1 h
 exact ⟨z, rfl, hl z h1⟩
theorem Hz {x : AV} {l : List ByteArray} {m : Nat} (h : x ∈ l.map fun z => AV.sc (.string z)) (hl : ∀ z ∈ l, z.size ≤ m) : ∃ z : ByteArray, x = .sc (.string z) ∧ z.size ≤ m := by
 obtain ⟨z, h1, rfl⟩ := List.mem_map.1 h
 exact ⟨z, rfl, hl z h1⟩
theorem L8 {α : Type} {w : α → Nat} : F2 w [] = 0 := rfl
theorem Hi {α : Type} {w : α → Nat} : ∀ (l : List α) (x : α), F2 w (l ++ [x]) = F2 w l + (1 + w x)
 | [], x => by show 1 + w x + 0 = 0 + (1 + w x); omega
 | y :: l, x => by
  show 1 + w y + F2 w (l ++ [x]) = 1 + w y + F2 w l + (1 + w x)
  rw [Hi l x]
  omega
theorem Bq {α : Type} {p : α → Prop} {l : List α} {x : α} (h : ∀ y ∈ l, p y) (hx : p x) : ∀ y ∈ l ++ [x], p y := by
 intro y hy
 rcases List.mem_append.1 hy with hy | hy
 ·exact h y hy
 ·rw [List.mem_singleton.1 hy]
  exact hx
theorem Kr {α : Type} (w : α → Nat) : ∀ (l : List α), l.length ≤ F2 w l
 | [] => Nat.le_refl _
 | x :: l => by
  have := Kr w l
  show l.length + 1 ≤ 1 + w x + F2 w l
  omega
theorem Cb : (⟨#[]⟩ : ByteArray).size = 0 := rfl
end
end
section
open Go
section
variable {β : Type} {n : Nat} {H : Ac} {L L' L1 L2 : List Ck} {G : Option β → Prop} {K : AV → Option β} {KH : KO β} {c : Nat} {code : ByteArray} {i : Nat} {h : Int}
theorem Qj {ty : Nat} {m : Int} (hs : code.size ≤ 1048576) (hm : m ≤ 4294967296) (s : Sep H L) (p : Pk L (Cr c code i h) L1)
  (hk : ∀ (b : Bool) (i' : Nat) (h' : Int) (H' : Ac), Sep H' (Cr c code i' h' :: L1) → Gd G (KH (.sc (.bool b)) H')) :
  Gd G ((PR (n + 3) β).call ty (.fn 28 [] []) [.ptr c 0, .sc (.int .i64 m)] H fun x H => KH x H) := by
 rw [Lu rfl rfl, Agv, f28]
 simp only [A9]
 refine D7 hs hm s p fun x i' h' H' hx s' => ?_
 refine Bv ?_
 exact hk _ i' h' H' s'
theorem Vq {ty d m : Nat} {cs : List AV} {a : Bool} (hs : code.size ≤ 1048576) (hm : m ≤ 256) (h1 : 1 ≤ m) (hc : cs.length = m) (s : Sep H L) (p : Pk L (Cr c code i h) L1) (q : Pk L1 (.blk d cs a) L2)
  (hk : ∀ (x : AV) (i' : Nat) (h' : Int) (H' : Ac), x ∈ cs → Sep H' (Cr c code i' h' :: L1) → Gd G (KH x H')) :
  Gd G ((PR (n + 3) β).call ty (.fn 64 [] []) [.ptr c 0, .sl d 0 m 1] H fun x H => KH x H) := by
 rw [Lu rfl rfl, Ahl, f64]
 simp only [Ca, Cc, A4]
 refine AcG ?_
 refine D7 hs (by omega) s p fun z i' h' H' hz s' => ?_
 refine Ol (by omega) (by omega) ?_
 have hlt : 0 + z.toNat * 1 < cs.length := by omega
 refine Ay (c := cs[0 + z.toNat * 1]) s' (.there q) (List.getElem?_eq_getElem hlt) ?_
 exact hk _ i' h' H' (List.getElem_mem hlt) s'
end
end
end Go.Proofs.Ytjiahcekpohehaa.Abs
set_option maxHeartbeats 1600000
namespace Go.Proofs.Ytjiahcekpohehaa.Abs
section
open Go
theorem Sc (n : Nat) (hn : 1048576 < n) (code : ByteArray) (hcode : code.size ≤ 1048576) (c i : Nat) (h : Int)   {β : Type} {G : Option β → Prop} {KH : KO β} {H : Ac} {L : List Ck} (s0 : Sep H (Cr c code i h :: L)) (hk : ∀ (r0 : ByteArray) (i' : Nat) (h' : Int) (H' : Ac), (r0.size ≤ 7) → Sep H' (Cr c code i' h' :: L) → Gd G (KH (.sc (.string r0)) H')) : Gd G (Dc E0 (n + 5) β 166 [.ptr c 0] H fun x H => KH x H) := by
 rw [Ae1, f166]
 try simp only [Bm, Be]
 refine Bk (cs := [.sc (.string (⟨#[97]⟩)), .sc (.string (⟨#[98]⟩)), .sc (.string (⟨#[97, 47, 98]⟩)), .sc (.string (⟨#[97, 47, 99]⟩)), .sc (.string (⟨#[97, 47, 98, 47, 99]⟩)), .sc (.string (⟨#[97, 47, 98, 47, 99, 47, 100]⟩)), .sc (.string (⟨#[36, 115]⟩)), .sc (.string (⟨#[36, 115, 47, 97]⟩)), .sc (.string (⟨#[47]⟩)), .sc (.string (⟨#[97, 47]⟩)), .sc (.string (⟨#[47, 97]⟩)), .sc (.string (⟨#[98, 47, 98]⟩)), .sc (.string (⟨#[195, 169, 47, 97]⟩))]) rfl ?_
 refine Bl s0 fun i1 H s2 => ?_
 refine Vq hcode (by omega) (by omega) rfl s2 A8 (.here) fun z3a iq4 hq4 H mz3 sq4 => ?_
 have s5 := (sq4.pick A8).tail
 obtain ⟨z3, rfl, hz3⟩ := Hz (l := [⟨#[97]⟩, ⟨#[98]⟩, ⟨#[97, 47, 98]⟩, ⟨#[97, 47, 99]⟩, ⟨#[97, 47, 98, 47, 99]⟩, ⟨#[97, 47, 98, 47, 99, 47, 100]⟩, ⟨#[36, 115]⟩, ⟨#[36, 115, 47, 97]⟩, ⟨#[47]⟩, ⟨#[97, 47]⟩, ⟨#[47, 97]⟩, ⟨#[98, 47, 98]⟩, ⟨#[195, 169, 47, 97]⟩]) (m := 7) mz3 (by decide)
 have e6 : z3.size ≤ 7 := by
  first | omega | (simp only [Co, Cb]; omega) | (simp; omega)
 exact hk z3 iq4 hq4 _ e6 (s5.sel (.cons (.here) .rest))
theorem Wl (n : Nat) (hn : 1048576 < n) (code : ByteArray) (hcode : code.size ≤ 1048576) (c i : Nat) (h : Int) (k : Int) (hk0 : k ≤ 1048576) {β : Type} {G : Option β → Prop} {KH : KO β} {H : Ac} {L : List Ck} (s0 : Sep H (Cr c code i h :: L)) (hk : ∀ (r0 : ByteArray) (r0x : AV) (i' : Nat) (h' : Int) (H' : Ac), (Aq r0x = true) → (r0.size ≤ k.toNat) → Sep H' (.own r0x 22 (Bj r0) :: Cr c code i' h' :: L) → Gd G (KH (r0x) H')) : Gd G (Dc E0 (n + 3) β 159 [.ptr c 0, .sc (.int .i64 k)] H fun x H => KH x H) := by
 rw [Ae9, f159]
 try simp only [Cj]
 have lp1 : ∀ (j m : Nat) (z : Int) (a2 : ByteArray) (a2x : AV) (i : Nat) (h : Int) (H : Ac), j < m → 0 ≤ z ∧ z + ((j : Nat) : Int) = max (k) 0 → Aq a2x = true → (a2.size = (z : Int).toNat) → Sep H (.own a2x 22 (Bj a2) :: Cr c code i h :: L) → Gd G (Lp (PR ((n + 2)) β) ((n + 2)) (fun x H => KH x H) m (.ptr c 0) (.sc (.int .i64 k)) (a2x) (.sc (.int .i64 z)) H) := by
  clear s0
  intro j
  induction j with
  | zero =>
   intro m0 z a2 a2x i h H hm hz la2x hinv s0
   obtain ⟨m, rfl⟩ : ∃ m, m0 = m + 1 := ⟨m0 - 1, by omega⟩
   rw [Lp]
   try simp only [Bm, A9, Aw, Be, Cy, Eg]
   refine Hw ?_
   refine B3 (decide_eq_false (by omega)) ?_
   have e2 : a2.size ≤ k.toNat := by
    first | omega | (simp only [Co, Cb]; omega) | (simp; omega)
   exact hk a2 a2x i h _ la2x e2 (s0.sel (.cons (.here) (.cons (.here) .rest)))
  | succ j ih =>
   intro m0 z a2 a2x i h H hm hz la2x hinv s0
   obtain ⟨m, rfl⟩ : ∃ m, m0 = m + 1 := ⟨m0 - 1, by omega⟩
   rw [Lp]
   try simp only [Bm, A9, Aw, Be, Cy, Eg]
   refine Hw ?_
   refine C1 (decide_eq_true (by omega)) ?_
   refine Zx hcode s0 A8 fun z3 iq4 hq4 H hz3 sq4 => ?_
   refine Ags (Ac1 (by omega) (by omega)) ?_
   refine Bk (cs := [.sc (.int .u8 z3)]) rfl ?_
   refine Bl sq4 fun i5 H s6 => ?_
   refine AeT s6 Ci (.here) ⟨_, _, rfl, rfl, rfl, rfl⟩ rfl (by first | omega | (simp only [List.length_map]; omega)) fun x7 H lx7 s8 => ?_
   refine Eo (by omega) (by omega) ?_
   have e9 : (O6 a2 z3).size = ((z + 1) : Int).toNat := by
    simp only [Co, Cb]; omega
   exact ih m _ (O6 a2 z3) x7 iq4 hq4 _ (by omega) (by omega) lx7 e9 (s8.sel (.cons (.here) (.cons (.here) .rest)))
 have s10 := s0.nl (ty := 22) ⟨_, _, rfl, rfl⟩
 have e11 : (⟨#[]⟩ : ByteArray).size = (0 : Int).toNat := by
  simp only [Co, Cb]; omega
 exact lp1 (max (k) 0 - 0).toNat _ _ (⟨#[]⟩ : ByteArray) .nl i h _ (by omega) (by omega) rfl e11 (s10.sel (.cons (.here) (.cons (.here) .rest)))
theorem Pg (n : Nat) (hn : 1048576 < n) (code : ByteArray) (hcode : code.size ≤ 1048576) (c i : Nat) (h : Int)   {β : Type} {G : Option β → Prop} {KH : KO β} {H : Ac} {L : List Ck} (s0 : Sep H (Cr c code i h :: L)) (hk : ∀ (r0 : Da) (r0x1 : AV) (i' : Nat) (h' : Int) (H' : Ac), (Aq r0x1 = true) → (Dg r0 ∧ B4 r0 ≤ 9) → Sep H' (.own r0x1 22 (Bj r0.fBody) :: Cr c code i' h' :: L) → Gd G (KH (.agg [.sc (.string r0.fTopic), r0x1, .sc (.int .i64 r0.fQos), .sc (.bool r0.fRetain)]) H')) : Gd G (Dc E0 (n + 7) β 145 [.ptr c 0] H fun x H => KH x H) := by
 rw [AeW, f145]
 try simp only [Cj, A4, A6, Be]
 refine C8 s0 fun i1 H s2 => ?_
 refine Gc rfl rfl ?_
 refine Sc _ (by omega) code hcode c i h   (s2.pick A8) fun r3 iq4 hq4 H hr3 sq4 => ?_
 refine D7 (m := 3) hcode (by omega) sq4 (.here) fun z5 iq6 hq6 H hz5 sq6 => ?_
 replace hz5 : 0 ≤ z5 ∧ z5 < 3 := by omega
 refine Gc rfl rfl ?_
 refine Wl _ (by omega) code hcode c iq6 hq6 z5 (by omega) (sq6.pick (.here)) fun r7 r7x iq8 hq8 H lr7x hr7 sq8 => ?_
 refine D7 (m := 3) hcode (by omega) sq8 A8 fun z9 iq10 hq10 H hz9 sq10 => ?_
 replace hz9 : 0 ≤ z9 ∧ z9 < 3 := by omega
 refine Qj hcode (by omega) sq10 (.here) fun b11 iq12 hq12 H sq12 => ?_
 refine Bk (cs := [.sc (.string r3), r7x, .sc (.int .i64 z9), .sc (.bool b11)]) (Ei (z' := [.sc (.string r3), .nl, .sc (.int .i64 0), .sc (.bool false)]) (Ak rfl) rfl (A7 rfl) rfl (Ei (z' := [.sc (.string r3), r7x, .sc (.int .i64 0), .sc (.bool false)]) (Ak lr7x) rfl (A7 rfl) rfl (Ei (z' := [.sc (.string r3), r7x, .sc (.int .i64 z9), .sc (.bool false)]) (Ak rfl) rfl (A7 rfl) rfl (Ei (z' := [.sc (.string r3), r7x, .sc (.int .i64 z9), .sc (.bool b11)]) (Ak rfl) rfl (A7 rfl) rfl (rfl))))) ?_
 refine A3 (cs' := [.sc (.string r3), r7x, .sc (.int .i64 z9), .sc (.bool b11)]) sq12 Ci (Ad (Aa rfl (Aa lr7x (Aa rfl (Aa rfl rfl))))) rfl (A7 rfl) rfl fun H s13 => ?_
 refine Aj s13 (.here) rfl ?_
 have e14 : Dg (⟨r3, r7, z9, b11⟩ : Da) ∧ B4 (⟨r3, r7, z9, b11⟩ : Da) ≤ 9 := by
  simp only [Dg, B4, Jo, C3, and_true, true_and, Cb]; first | omega | ((repeat' apply And.intro) <;> first | trivial | omega | assumption | (intro y hy; cases hy; done))
 exact hk (⟨r3, r7, z9, b11⟩ : Da) r7x iq12 hq12 _ lr7x e14 (s13.sel (.cons Ci (.cons A8 (.skip .rest))))
theorem Un (n : Nat) (hn : 1048576 < n) (code : ByteArray) (hcode : code.size ≤ 1048576) (c i : Nat) (h : Int) (most : Int) (hm0 : 0 ≤ most ∧ most ≤ 8) {β : Type} {G : Option β → Prop} {KH : KO β} {H : Ac} {L : List Ck} (s0 : Sep H (Cr c code i h :: L)) (hk : ∀ (r0 : List Da) (r0x : AV) (i' : Nat) (h' : Int) (H' : Ac), (Aq r0x = true) → ((∀ y ∈ r0, Dg y) ∧ F2 B4 r0 ≤ 80) → Sep H' (.own r0x 79 (Al Au r0) :: Cr c code i' h' :: L) → Gd G (KH (r0x) H')) : Gd G (Dc E0 (n + 9) β 141 [.ptr c 0, .sc (.int .i64 most)] H fun x H => KH x H) := by
 rw [Aeo, f141]
 try simp only [A9]
 refine Eo (by omega) (by omega) ?_
 refine D7 (m := (most + 1)) hcode (by omega) s0 (.here) fun z1 iq2 hq2 H hz1 sq2 => ?_
 have lp3 : ∀ (j m : Nat) (z : Int) (a1 : List Da) (a1x : AV) (i : Nat) (h : Int) (H : Ac), j < m → z = ((j : Nat) : Int) → Aq a1x = true → ((∀ y ∈ a1, Dg y) ∧ F2 B4 a1 + 10 * j ≤ 80) → Sep H (.own a1x 79 (Al Au a1) :: Cr c code i h :: L) → Gd G (Lq (PR ((n + 8)) β) ((n + 8)) (fun x H => KH x H) m (.ptr c 0) (a1x) (.sc (.int .i64 z)) H) := by
  clear s0 sq2
  intro j
  induction j with
  | zero =>
   intro m0 z a1 a1x i h H hm hz la1x hinv s0
   obtain ⟨m, rfl⟩ : ∃ m, m0 = m + 1 := ⟨m0 - 1, by omega⟩
   obtain ⟨hv1, hv2⟩ := hinv
   have hinv := And.intro hv1 hv2
   have ga1 := Kr B4 a1
   rw [Lq]
   try simp only [Bm, A9, Aw, Be, Cy]
   refine Js ?_
   refine B3 (decide_eq_false (by omega)) ?_
   have e4 : (∀ y ∈ a1, Dg y) ∧ F2 B4 a1 ≤ 80 := by
    first | exact ⟨by assumption, by omega⟩ | exact ⟨by simp, by simp [L8]⟩ | exact ⟨Bq (by assumption) (by assumption), by rw [Hi]; omega⟩
   exact hk a1 a1x i h _ la1x e4 (s0.sel (.cons (.here) (.cons (.here) .rest)))
  | succ j ih =>
   intro m0 z a1 a1x i h H hm hz la1x hinv s0
   obtain ⟨m, rfl⟩ : ∃ m, m0 = m + 1 := ⟨m0 - 1, by omega⟩
   obtain ⟨hv1, hv2⟩ := hinv
   have hinv := And.intro hv1 hv2
   have ga1 := Kr B4 a1
   rw [Lq]
   try simp only [Bm, A9, Aw, Be, Cy]
   refine Js ?_
   refine C1 (decide_eq_true (by omega)) ?_
   refine Gc rfl rfl ?_
   refine Pg _ (by omega) code hcode c i h   (s0.pick A8) fun r5 r5x1 iq6 hq6 H lr5x1 hr5 sq6 => ?_
   obtain ⟨or5, wr5⟩ := hr5
   have ur5 := or5
   have vr5 := wr5
   simp only [Dg, B4, Jo, C3, and_true, true_and] at ur5 vr5
   refine Bk (cs := [.sc (.string r5.fTopic), r5x1, .sc (.int .i64 r5.fQos), .sc (.bool r5.fRetain)]) (Ei (z' := [.sc (.string r5.fTopic), r5x1, .sc (.int .i64 r5.fQos), .sc (.bool r5.fRetain)]) (Ad (Aa rfl (Aa lr5x1 (Aa rfl (Aa rfl rfl))))) rfl (A7 rfl) rfl (rfl)) ?_
   refine Bl sq6 fun i7 H s8 => ?_
   refine Ib (cty := [9, 22, 3, 4]) (e := (r5 : Da)) s8 ⟨_, _, rfl, rfl, rfl, rfl⟩ Cz (.here) rfl (Aa rfl (Aa lr5x1 (Aa rfl (Aa rfl rfl)))) (.sc (.own (.here) (.sc (.sc .nil)))) ⟨trivial, ⟨(AcP r5.fBody), ⟨trivial, ⟨trivial, trivial⟩⟩⟩⟩ rfl (by first | omega | (simp only [List.length_append, List.length_singleton]; omega)) fun x9 H lx9 s10 => ?_
   refine K7 (by omega) (by omega) ?_
   have e11 : (∀ y ∈ (a1 ++ [r5]), Dg y) ∧ F2 B4 (a1 ++ [r5]) + 10 * j ≤ 80 := by
    first | omega | exact ⟨fun y hy => (by cases hy), by simp only [L8]; omega⟩ | exact ⟨Bq hinv.1 (by assumption), by have h0 := hinv.2; rw [Hi]; omega⟩ | (simp only [Co, Cb] at *; omega) | (simp only [Jo, C3, L8, Hi, List.length_nil, List.length_append, List.length_singleton, List.not_mem_nil, false_implies, implies_true, and_true, true_and] at *; first | omega | (refine ⟨?_, ?_⟩ <;> first | omega | assumption))
   exact ih m _ (a1 ++ [r5]) x9 iq6 hq6 _ (by omega) (by omega) lx9 e11 (s10.sel (.cons (.here) (.cons (.here) .rest)))
 have s12 := sq2.nl (ty := 79) ⟨_, _, rfl, rfl⟩
 have e13 : (∀ y ∈ ([] : List Da), Dg y) ∧ F2 B4 ([] : List Da) + 10 * (z1).toNat ≤ 80 := by
  first | omega | exact ⟨fun y hy => (by cases hy), by simp only [L8]; omega⟩ | exact ⟨Bq hinv.1 (by assumption), by have h0 := hinv.2; rw [Hi]; omega⟩ | (simp only [Co, Cb] at *; omega) | (simp only [Jo, C3, L8, Hi, List.length_nil, List.length_append, List.length_singleton, List.not_mem_nil, false_implies, implies_true, and_true, true_and] at *; first | omega | (refine ⟨?_, ?_⟩ <;> first | omega | assumption))
 exact lp3 (z1).toNat _ _ ([] : List Da) .nl iq2 hq2 _ (by omega) (by omega) rfl e13 (s12.sel (.cons (.here) (.cons (.here) .rest)))
theorem AbL (n : Nat) (hn : 1048576 < n) (code : ByteArray) (hcode : code.size ≤ 1048576) (c i : Nat) (h : Int)   {β : Type} {G : Option β → Prop} {KH : KO β} {H : Ac} {L : List Ck} (s0 : Sep H (Cr c code i h :: L)) (hk : ∀ (r0 : ByteArray) (i' : Nat) (h' : Int) (H' : Ac), (r0.size ≤ 7) → Sep H' (Cr c code i' h' :: L) → Gd G (KH (.sc (.string r0)) H')) : Gd G (Dc E0 (n + 6) β 176 [.ptr c 0] H fun x H => KH x H) := by
 rw [Af2, f176]
 try simp only [Bm, Aw, Be]
 refine Qj hcode (by omega) s0 (.here) fun b1 iq2 hq2 H sq2 => ?_
 refine Ai (b1) (fun h3 => ?_) (fun h3 => ?_)
 ·refine C1 h3 ?_
  refine Gc rfl rfl ?_
  refine Sc _ (by omega) code hcode c iq2 hq2   (sq2.pick (.here)) fun r4 iq5 hq5 H hr4 sq5 => ?_
  have e6 : r4.size ≤ 7 := by
   first | omega | (simp only [Co, Cb]; omega) | (simp; omega)
  exact hk r4 iq5 hq5 _ e6 (sq5.sel (.cons (.here) .rest))
 ·refine B3 h3 ?_
  refine Bk (cs := [.sc (.string (⟨#[35]⟩)), .sc (.string (⟨#[43]⟩)), .sc (.string (⟨#[97, 47, 35]⟩)), .sc (.string (⟨#[97, 47, 43]⟩)), .sc (.string (⟨#[43, 47, 98]⟩)), .sc (.string (⟨#[43, 47, 43]⟩)), .sc (.string (⟨#[97, 47, 43, 47, 99]⟩)), .sc (.string (⟨#[97, 47, 98, 47, 35]⟩)), .sc (.string (⟨#[36, 115, 47, 35]⟩)), .sc (.string (⟨#[36, 115, 47, 43]⟩)), .sc (.string (⟨#[43, 47, 35]⟩)), .sc (.string (⟨#[47, 43]⟩)), .sc (.string (⟨#[47, 35]⟩)), .sc (.string (⟨#[97, 47, 43, 47, 35]⟩)), .sc (.string (⟨#[98, 47, 35]⟩)), .sc (.string (⟨#[43, 47, 98, 47, 43]⟩))]) rfl ?_
  refine Bl sq2 fun i7 H s8 => ?_
  refine Vq hcode (by omega) (by omega) rfl s8 A8 (.here) fun z9a iq10 hq10 H mz9 sq10 => ?_
  have s11 := (sq10.pick A8).tail
  obtain ⟨z9, rfl, hz9⟩ := Hz (l := [⟨#[35]⟩, ⟨#[43]⟩, ⟨#[97, 47, 35]⟩, ⟨#[97, 47, 43]⟩, ⟨#[43, 47, 98]⟩, ⟨#[43, 47, 43]⟩, ⟨#[97, 47, 43, 47, 99]⟩, ⟨#[97, 47, 98, 47, 35]⟩, ⟨#[36, 115, 47, 35]⟩, ⟨#[36, 115, 47, 43]⟩, ⟨#[43, 47, 35]⟩, ⟨#[47, 43]⟩, ⟨#[47, 35]⟩, ⟨#[97, 47, 43, 47, 35]⟩, ⟨#[98, 47, 35]⟩, ⟨#[43, 47, 98, 47, 43]⟩]) (m := 5) mz9 (by decide)
  have e12 : z9.size ≤ 7 := by
   first | omega | (simp only [Co, Cb]; omega) | (simp; omega)
  exact hk z9 iq10 hq10 _ e12 (s11.sel (.cons (.here) .rest))
theorem Ahn (n : Nat) (hn : 1048576 < n) (code : ByteArray) (hcode : code.size ≤ 1048576) (c i : Nat) (h : Int)   {β : Type} {G : Option β → Prop} {KH : KO β} {H : Ac} {L : List Ck} (s0 : Sep H (Cr c code i h :: L)) (hk : ∀ (r0 : ByteArray) (i' : Nat) (h' : Int) (H' : Ac), (r0.size ≤ 61) → Sep H' (Cr c code i' h' :: L) → Gd G (KH (.sc (.string r0)) H')) : Gd G (Dc E0 (n + 7) β 158 [.ptr c 0] H fun x H => KH x H) := by
 rw [Aez, f158]
 try simp only [Bm, A9, Aw, Be]
 refine D7 (m := 3) hcode (by omega) s0 (.here) fun z1 iq2 hq2 H hz1 sq2 => ?_
 replace hz1 : 0 ≤ z1 ∧ z1 < 3 := by omega
 refine Bv ?_
 refine Ai ((decide (z1 = 0))) (fun h3 => ?_) (fun h3 => ?_)
 ·refine C1 h3 ?_
  refine Gc rfl rfl ?_
  refine Sc _ (by omega) code hcode c iq2 hq2   (sq2.pick (.here)) fun r4 iq5 hq5 H hr4 sq5 => ?_
  have e6 : r4.size ≤ 61 := by
   first | omega | (simp only [Co, Cb]; omega) | (simp; omega)
  exact hk r4 iq5 hq5 _ e6 (sq5.sel (.cons (.here) .rest))
 ·refine B3 h3 ?_
  refine Bv ?_
  refine Ai ((decide (z1 = 1))) (fun h7 => ?_) (fun h7 => ?_)
  ·refine C1 h7 ?_
   refine Gc rfl rfl ?_
   refine AbL _ (by omega) code hcode c iq2 hq2   (sq2.pick (.here)) fun r8 iq9 hq9 H hr8 sq9 => ?_
   have e10 : r8.size ≤ 61 := by
    first | omega | (simp only [Co, Cb]; omega) | (simp; omega)
   exact hk r8 iq9 hq9 _ e10 (sq9.sel (.cons (.here) .rest))
  ·refine B3 h7 ?_
   refine Bk (cs := [.sc (.string (⟨#[]⟩)), .sc (.string (⟨#[97, 43]⟩)), .sc (.string (⟨#[97, 47, 98, 43]⟩)), .sc (.string (⟨#[43, 97]⟩)), .sc (.string (⟨#[35, 47, 97]⟩)), .sc (.string (⟨#[97, 35]⟩)), .sc (.string (⟨#[97, 47, 35, 47, 98]⟩)), .sc (.string (⟨#[35, 35]⟩)), .sc (.string (⟨#[43, 43]⟩)), .sc (.string (⟨#[97, 47, 98, 47, 99, 47, 100, 47, 101, 47, 102]⟩)), .sc (.string (⟨#[97, 47, 98, 47, 99, 47, 100, 47, 101, 47, 102, 47, 103]⟩)), .sc (.string (⟨#[47, 47, 47, 47, 47]⟩)), .sc (.string (⟨#[47, 47, 47, 47, 47, 47]⟩)), .sc (.string (⟨#[0]⟩)), .sc (.string (⟨#[255]⟩)), .sc (.string (⟨#[49, 50, 51, 52, 53, 54, 55, 56, 57, 48, 49, 50, 51, 52, 53, 54, 55, 56, 57, 48, 49, 50, 51, 52, 53, 54, 55, 56, 57, 48, 49, 50, 51, 52, 53, 54, 55, 56, 57, 48, 49, 50, 51, 52, 53, 54, 55, 56, 57, 48, 49, 50, 51, 52, 53, 54, 55, 56, 57, 48, 49]⟩))]) rfl ?_
   refine Bl sq2 fun i11 H s12 => ?_
   refine Vq hcode (by omega) (by omega) rfl s12 A8 (.here) fun z13a iq14 hq14 H mz13 sq14 => ?_
   have s15 := (sq14.pick A8).tail
   obtain ⟨z13, rfl, hz13⟩ := Hz (l := [⟨#[]⟩, ⟨#[97, 43]⟩, ⟨#[97, 47, 98, 43]⟩, ⟨#[43, 97]⟩, ⟨#[35, 47, 97]⟩, ⟨#[97, 35]⟩, ⟨#[97, 47, 35, 47, 98]⟩, ⟨#[35, 35]⟩, ⟨#[43, 43]⟩, ⟨#[97, 47, 98, 47, 99, 47, 100, 47, 101, 47, 102]⟩, ⟨#[97, 47, 98, 47, 99, 47, 100, 47, 101, 47, 102, 47, 103]⟩, ⟨#[47, 47, 47, 47, 47]⟩, ⟨#[47, 47, 47, 47, 47, 47]⟩, ⟨#[0]⟩, ⟨#[255]⟩, ⟨#[49, 50, 51, 52, 53, 54, 55, 56, 57, 48, 49, 50, 51, 52, 53, 54, 55, 56, 57, 48, 49, 50, 51, 52, 53, 54, 55, 56, 57, 48, 49, 50, 51, 52, 53, 54, 55, 56, 57, 48, 49, 50, 51, 52, 53, 54, 55, 56, 57, 48, 49, 50, 51, 52, 53, 54, 55, 56, 57, 48, 49]⟩]) (m := 61) mz13 (by decide)
   have e16 : z13.size ≤ 61 := by
    first | omega | (simp only [Co, Cb]; omega) | (simp; omega)
   exact hk z13 iq14 hq14 _ e16 (s15.sel (.cons (.here) .rest))
theorem Vk (n : Nat) (hn : 1048576 < n) (code : ByteArray) (hcode : code.size ≤ 1048576) (c i : Nat) (h : Int)   {β : Type} {G : Option β → Prop} {KH : KO β} {H : Ac} {L : List Ck} (s0 : Sep H (Cr c code i h :: L)) (hk : ∀ (r0 : Da) (r0x1 : AV) (i' : Nat) (h' : Int) (H' : Ac), (Aq r0x1 = true) → (Dg r0 ∧ B4 r0 ≤ 102) → Sep H' (.own r0x1 22 (Bj r0.fBody) :: Cr c code i' h' :: L) → Gd G (KH (.agg [.sc (.string r0.fTopic), r0x1, .sc (.int .i64 r0.fQos), .sc (.bool r0.fRetain)]) H')) : Gd G (Dc E0 (n + 9) β 140 [.ptr c 0] H fun x H => KH x H) := by
 rw [Aep, f140]
 try simp only [Cj, Bm, Bi, A4, A6, A9, Aw, Be]
 refine C8 s0 fun i1 H s2 => ?_
 refine Gc rfl rfl ?_
 refine Pg _ (by omega) code hcode c i h   (s2.pick A8) fun r3 r3x1 iq4 hq4 H lr3x1 hr3 sq4 => ?_
 obtain ⟨or3, wr3⟩ := hr3
 have ur3 := or3
 have vr3 := wr3
 simp only [Dg, B4, Jo, C3, and_true, true_and] at ur3 vr3
 refine C8 sq4 fun i5 H s6 => ?_
 refine A3 (cs' := [.sc (.string r3.fTopic), r3x1, .sc (.int .i64 r3.fQos), .sc (.bool r3.fRetain)]) s6 (.here) (Ad (Aa rfl (Aa lr3x1 (Aa rfl (Aa rfl rfl))))) rfl (A7 rfl) rfl fun H s7 => ?_
 refine D7 (m := 12) hcode (by omega) s7 Ci fun z8 iq9 hq9 H hz8 sq9 => ?_
 replace hz8 : 0 ≤ z8 ∧ z8 < 12 := by omega
 refine Bv ?_
 refine Ai ((decide (z8 = 0))) (fun h10 => ?_) (fun h10 => ?_)
 ·refine C1 h10 ?_
  refine Gc rfl rfl ?_
  refine Ahn _ (by omega) code hcode c iq9 hq9   (sq9.pick (.here)) fun r11 iq12 hq12 H hr11 sq12 => ?_
  refine Af (o' := 0) rfl ?_
  refine A3 (cs' := [.sc (.string r11), r3x1, .sc (.int .i64 r3.fQos), .sc (.bool r3.fRetain)]) sq12 A8 (Ak rfl) rfl (A7 rfl) rfl fun H s13 => ?_
  refine Aj s13 (.here) rfl ?_
  refine A3 (cs' := [.sc (.string r11), r3x1, .sc (.int .i64 r3.fQos), .sc (.bool r3.fRetain)]) s13 Cz (Ad (Aa rfl (Aa lr3x1 (Aa rfl (Aa rfl rfl))))) rfl (A7 rfl) rfl fun H s14 => ?_
  refine Aj s14 (.here) rfl ?_
  have e15 : Dg (⟨r11, r3.fBody, r3.fQos, r3.fRetain⟩ : Da) ∧ B4 (⟨r11, r3.fBody, r3.fQos, r3.fRetain⟩ : Da) ≤ 102 := by
   simp only [Dg, B4, Jo, C3, and_true, true_and, Cb]; first | omega | ((repeat' apply And.intro) <;> first | trivial | omega | assumption | (intro y hy; cases hy; done))
  exact hk (⟨r11, r3.fBody, r3.fQos, r3.fRetain⟩ : Da) r3x1 iq12 hq12 _ lr3x1 e15 (s14.sel (.cons Cz (.cons Ci N8)))
 ·refine B3 h10 ?_
  refine Bv ?_
  refine Ai ((decide (z8 = 1))) (fun h16 => ?_) (fun h16 => ?_)
  ·refine C1 h16 ?_
   refine Bk (cs := [.sc (.int .i64 40), .sc (.int .i64 41)]) rfl ?_
   refine Bl sq9 fun i17 H s18 => ?_
   refine Dl hcode (by omega) (by omega) rfl s18 A8 (.here) fun z19a iq20 hq20 H mz19 sq20 => ?_
   have s21 := (sq20.pick A8).tail
   obtain ⟨z19, rfl, hz19⟩ := A5 (l := [40, 41]) (lo := 40) (hi := 41) mz19 (by decide)
   refine Gc rfl rfl ?_
   refine Wl _ (by omega) code hcode c iq20 hq20 z19 (by omega) (s21.pick (.here)) fun r22 r22x iq23 hq23 H lr22x hr22 sq23 => ?_
   refine Af (o' := 1) rfl ?_
   refine A3 (cs' := [.sc (.string r3.fTopic), r22x, .sc (.int .i64 r3.fQos), .sc (.bool r3.fRetain)]) sq23 Ci (Ak lr22x) rfl (A7 rfl) rfl fun H s24 => ?_
   refine Aj s24 (.here) rfl ?_
   refine A3 (cs' := [.sc (.string r3.fTopic), r22x, .sc (.int .i64 r3.fQos), .sc (.bool r3.fRetain)]) s24 Fa (Ad (Aa rfl (Aa lr22x (Aa rfl (Aa rfl rfl))))) rfl (A7 rfl) rfl fun H s25 => ?_
   refine Aj s25 (.here) rfl ?_
   have e26 : Dg (⟨r3.fTopic, r22, r3.fQos, r3.fRetain⟩ : Da) ∧ B4 (⟨r3.fTopic, r22, r3.fQos, r3.fRetain⟩ : Da) ≤ 102 := by
    simp only [Dg, B4, Jo, C3, and_true, true_and, Cb]; first | omega | ((repeat' apply And.intro) <;> first | trivial | omega | assumption | (intro y hy; cases hy; done))
   exact hk (⟨r3.fTopic, r22, r3.fQos, r3.fRetain⟩ : Da) r22x iq23 hq23 _ lr22x e26 (s25.sel (.cons Ci (.cons Ci zS3)))
  ·refine B3 h16 ?_
   refine Bv ?_
   refine Ai ((decide (z8 = 2))) (fun h27 => ?_) (fun h27 => ?_)
   ·refine C1 h27 ?_
    refine Bk (cs := [.sc (.int .i64 (-1)), .sc (.int .i64 3)]) rfl ?_
    refine Bl sq9 fun i28 H s29 => ?_
    refine Dl hcode (by omega) (by omega) rfl s29 A8 (.here) fun z30a iq31 hq31 H mz30 sq31 => ?_
    have s32 := (sq31.pick A8).tail
    obtain ⟨z30, rfl, hz30⟩ := A5 (l := [(-1), 3]) (lo := -1) (hi := 3) mz30 (by decide)
    refine Af (o' := 2) rfl ?_
    refine A3 (cs' := [.sc (.string r3.fTopic), r3x1, .sc (.int .i64 z30), .sc (.bool r3.fRetain)]) s32 A8 (Ak rfl) rfl (A7 rfl) rfl fun H s33 => ?_
    refine Aj s33 (.here) rfl ?_
    refine A3 (cs' := [.sc (.string r3.fTopic), r3x1, .sc (.int .i64 z30), .sc (.bool r3.fRetain)]) s33 Cz (Ad (Aa rfl (Aa lr3x1 (Aa rfl (Aa rfl rfl))))) rfl (A7 rfl) rfl fun H s34 => ?_
    refine Aj s34 (.here) rfl ?_
    have e35 : Dg (⟨r3.fTopic, r3.fBody, z30, r3.fRetain⟩ : Da) ∧ B4 (⟨r3.fTopic, r3.fBody, z30, r3.fRetain⟩ : Da) ≤ 102 := by
     simp only [Dg, B4, Jo, C3, and_true, true_and, Cb]; first | omega | ((repeat' apply And.intro) <;> first | trivial | omega | assumption | (intro y hy; cases hy; done))
    exact hk (⟨r3.fTopic, r3.fBody, z30, r3.fRetain⟩ : Da) r3x1 iq31 hq31 _ lr3x1 e35 (s34.sel (.cons Cz (.cons Ci N8)))
   ·refine B3 h27 ?_
    refine Aj sq9 A8 rfl ?_
    refine A3 (cs' := [.sc (.string r3.fTopic), r3x1, .sc (.int .i64 r3.fQos), .sc (.bool r3.fRetain)]) sq9 Cz (Ad (Aa rfl (Aa lr3x1 (Aa rfl (Aa rfl rfl))))) rfl (A7 rfl) rfl fun H s36 => ?_
    refine Aj s36 (.here) rfl ?_
    have e37 : Dg (r3 : Da) ∧ B4 (r3 : Da) ≤ 102 := by
     simp only [Dg, B4, Jo, C3, and_true, true_and, Cb]; first | omega | ((repeat' apply And.intro) <;> first | trivial | omega | assumption | (intro y hy; cases hy; done))
    exact hk (r3 : Da) r3x1 iq9 hq9 _ lr3x1 e37 (s36.sel (.cons Cz (.cons A8 N8)))
theorem Acb (n : Nat) (hn : 1048576 < n) (code : ByteArray) (hcode : code.size ≤ 1048576) (c i : Nat) (h : Int)   {β : Type} {G : Option β → Prop} {KH : KO β} {H : Ac} {L : List Ck} (s0 : Sep H (Cr c code i h :: L)) (hk : ∀ (r0 : List Da) (r0x : AV) (i' : Nat) (h' : Int) (H' : Ac), (Aq r0x = true) → ((∀ y ∈ r0, Dg y) ∧ F2 B4 r0 ≤ 183) → Sep H' (.own r0x 79 (Al Au r0) :: Cr c code i' h' :: L) → Gd G (KH (r0x) H')) : Gd G (Dc E0 (n + 10) β 139 [.ptr c 0] H fun x H => KH x H) := by
 rw [AdZ, f139]
 try simp only [Bm, Aw, Be, Cy]
 refine Gc rfl rfl ?_
 refine Un _ (by omega) code hcode c i h 8 (by omega) (s0.pick (.here)) fun r1 r1x iq2 hq2 H lr1x hr1 sq2 => ?_
 obtain ⟨or1, wr1⟩ := hr1
 have gr1 := Kr B4 r1
 refine Qj hcode (by omega) sq2 A8 fun b3 iq4 hq4 H sq4 => ?_
 refine F3 ?_
 refine Ai (b3) (fun h5 => ?_) (fun h5 => ?_)
 ·refine C1 h5 ?_
  refine Gc rfl rfl ?_
  refine Vk _ (by omega) code hcode c iq4 hq4   (sq4.pick (.here)) fun r6 r6x1 iq7 hq7 H lr6x1 hr6 sq7 => ?_
  obtain ⟨or6, wr6⟩ := hr6
  have ur6 := or6
  have vr6 := wr6
  simp only [Dg, B4, Jo, C3, and_true, true_and] at ur6 vr6
  refine Bk (cs := [.sc (.string r6.fTopic), r6x1, .sc (.int .i64 r6.fQos), .sc (.bool r6.fRetain)]) (Ei (z' := [.sc (.string r6.fTopic), r6x1, .sc (.int .i64 r6.fQos), .sc (.bool r6.fRetain)]) (Ad (Aa rfl (Aa lr6x1 (Aa rfl (Aa rfl rfl))))) rfl (A7 rfl) rfl (rfl)) ?_
  refine Bl sq7 fun i8 H s9 => ?_
  refine Ib (cty := [9, 22, 3, 4]) (e := (r6 : Da)) s9 ⟨_, _, rfl, rfl, rfl, rfl⟩ Cz (.here) rfl (Aa rfl (Aa lr6x1 (Aa rfl (Aa rfl rfl)))) (.sc (.own (.here) (.sc (.sc .nil)))) ⟨trivial, ⟨(AcP r6.fBody), ⟨trivial, ⟨trivial, trivial⟩⟩⟩⟩ rfl (by first | omega | (simp only [List.length_append, List.length_singleton]; omega)) fun x10 H lx10 s11 => ?_
  have e12 : (∀ y ∈ (r1 ++ [r6]), Dg y) ∧ F2 B4 (r1 ++ [r6]) ≤ 183 := by
   first | exact ⟨by assumption, by omega⟩ | exact ⟨by simp, by simp [L8]⟩ | exact ⟨Bq (by assumption) (by assumption), by rw [Hi]; omega⟩
  exact hk (r1 ++ [r6]) x10 iq7 hq7 _ lx10 e12 (s11.sel (.cons (.here) (.cons (.here) .rest)))
 ·refine B3 h5 ?_
  have e13 : (∀ y ∈ r1, Dg y) ∧ F2 B4 r1 ≤ 183 := by
   first | exact ⟨by assumption, by omega⟩ | exact ⟨by simp, by simp [L8]⟩ | exact ⟨Bq (by assumption) (by assumption), by rw [Hi]; omega⟩
  exact hk r1 r1x iq4 hq4 _ lr1x e13 (sq4.sel (.cons A8 (.cons (.here) .rest)))
end
section
open Go
def K0 (x lo hi : Int) : Bool := decide (lo ≤ x) && decide (x ≤ hi)
theorem Mw (n : Nat) (ty : Nat) (x : Int) (lo : Int) (hi : Int) : Di E0 (n + 1) ty 154 [.sc (.int .i64 x), .sc (.int .i64 lo), .sc (.int .i64 hi)] = some (.sc (.bool (K0 x lo hi))) := by
 rw [Bu, Afg, f154]
 try simp only [De, Cj, Bi, A4, A6, A9, Ep, Er, Ew, Aw, Bx, Ch, Ca, Dx, Cc, Fn, D1, Dj, Bm, Be, Fm, Cy, Eg, E8]
 refine Bf (v := .sc (.bool (decide (x ≥ lo)))) (fun k => rfl) ?_
 apply B7 ((decide (x ≥ lo)) && (decide (x ≤ hi)))
 ·intro b1 q1
  refine Ai ((decide (x ≥ lo))) (fun h1 => ?_) (fun h1 => ?_)
  ·refine Bb h1 ?_
   refine Bb h1 ?_
   refine Bb h1 ?_
   refine Bf (v := .sc (.bool (decide (x ≤ hi)))) (fun k => rfl) ?_
   refine Dh h1 (Ke q1 h1) ?_
   exact rfl
  ·refine Bd h1 ?_
   refine Bd h1 ?_
   refine Bd h1 ?_
   refine Df h1 (Ko q1 h1) ?_
   exact rfl
 intro b1 q1
 exact Gz (by first | (simp_all [K0]; done) | (rw [Bool.eq_iff_iff]; simp [K0] at *; omega))
theorem Ur (n : Nat) (ty : Nat) (s t : ByteArray) : Di E0 (n + 1) ty 188 [Bj s, Bj t] = some (.sc (.bool (s.toList == t.toList))) := by
 rw [Bu, AdX, f188]
 have e : ∀ u : ByteArray, C5 [] 1 (.ro u.size (Bh u)) = some (Bh u) := by
  intro u
  simp [C5, Ef]
 have eb : ∀ u : ByteArray, (Bh u).mapM Ny = some u.data.toList := fun u => Om _
 simp only [E8, A9, Wv, e, eb, Option.bind_some, Fh, AcC]
 simp
end
section
open Go
def lvL : List UInt8 → List UInt8 → List (List UInt8)
 | cur, [] => [cur]
 | cur, b :: l => if b = 47 then cur :: lvL [] l else lvL (cur ++ [b]) l
def ofL (l : List UInt8) : ByteArray := ⟨l.toArray⟩
def Nj (s : ByteArray) : List ByteArray := (lvL [] s.data.toList).map ofL
def Sr (s : ByteArray) (b : UInt8) : Bool := s.data.toList.any fun c => c == b
def vPH (s : ByteArray) : Bool := Sr s 43 || Sr s 35
theorem Ad9 (s : ByteArray) : ofL s.data.toList = s := by
 cases s
 rfl
end
section
open Go
def P2 : Nat → List UInt8 → Bool
 | 0, _ => true
 | n + 1, l => if l = [] then true else if (Lib.decodeL l).1 = 65533 ∧ (Lib.decodeL l).2 = 1 then false else if (Lib.decodeL l).1 = 0 then false else P2 n (l.drop (Lib.decodeL l).2)
def G1 (s : ByteArray) : Bool := decide (s.size ≤ 60) && P2 s.size s.data.toList
end
section
open Go
theorem AhK : ∀ X : Fin 256, bits .and .i64 ((X.val : Nat) : Int) 31 = ((X.val % 32 : Nat) : Int) := by decide +kernel
theorem AhP : ∀ X : Fin 256, bits .and .i64 ((X.val : Nat) : Int) 15 = ((X.val % 16 : Nat) : Int) := by decide +kernel
theorem AhQ : ∀ X : Fin 256, bits .and .i64 ((X.val : Nat) : Int) 7 = ((X.val % 8 : Nat) : Int) := by decide +kernel
def Py (d : Nat × Nat) (i : Nat) : AV := if d.1 = 65533 ∧ d.2 = 1 then .tup [.sc (.int .i64 0), .sc (.int .i64 0), .sc (.bool false)] else .tup [.sc (.int .i64 d.1), .sc (.int .i64 ((i + d.2 : Nat) : Int)), .sc (.bool true)]
def Y9 : AV := .tup [.sc (.int .i64 0), .sc (.int .i64 0), .sc (.bool false)]
theorem Age (s : ByteArray) (i : Nat) (h : i < s.size) (H : Ac) (k : AV → Option AV) : (E7 1 (Bj s) (.sc (.int .i64 i)) fun t => C2 false 1 t H k) = k (.sc (.int .u8 (s.data.toList.getD i 0).toNat)) := by
 rw [Oo 1 _ _ i _ h (by rw [Ef]; omega)]
 have hl : i < s.data.toList.length := by simpa using h
 have hd : (Bh s).drop (i * 1) = .sc (.int .u8 (s.data.toList.getD i 0).toNat) :: (Bh s).drop (i + 1) := by
  rw [Nat.mul_one, List.drop_eq_getElem_cons (by rw [Ef]; omega)]
  congr 1
  simp [Bh, List.getD_eq_getElem?_getD, h]
 rw [hd, Nz]
section loop
variable (n : Nat) (k : AV → Ac → Option AV) (H : Ac) (s : ByteArray)
theorem Jn (m at' N v i : Nat) (least : Int) (hi : i ≤ N) (hb : at' + i < s.size) (hN : N ≤ 3) (hv : v < 100000000) (hs : s.size ≤ 1048576) :
  H0 (PR n AV) n k (m + 1) (Bj s) (.sc (.int .i64 at')) (.sc (.int .i64 N)) (.sc (.int .i64 least)) (.sc (.int .i64 v)) (.sc (.int .i64 i)) H =
   if (s.data.toList.getD (at' + i) 0).toNat / 64 = 2 then H0 (PR n AV) n k m (Bj s) (.sc (.int .i64 at')) (.sc (.int .i64 N)) (.sc (.int .i64 least)) (.sc (.int .i64 ((v * 64 + (s.data.toList.getD (at' + i) 0).toNat % 64 : Nat) : Int))) (.sc (.int .i64 ((i + 1 : Nat) : Int))) H else k Y9 H := by
 obtain ⟨y, hy⟩ : ∃ y, (s.data.toList.getD (at' + i) 0).toNat = y := ⟨_, rfl⟩
 have hylt : y < 256 := by rw [← hy]; exact (s.data.toList.getD (at' + i) 0).toNat_lt
 have hba := Age s (at' + i) hb H
 rw [hy] at hba ⊢
 rw [H0]
 simp only [A9, Aw, Cc, A4, Eg, Bx, Ch]
 rw [T8, D8, if_pos (by simp; omega), Qo, ← Int.natCast_add, Fe _ (by omega) (by omega), hba]
 simp only [Wu, Xo, Option.bind_some]
 rw [Fe _ (by omega) (by omega), AaG]
 by_cases h1 : y < 128
 ·refine Du (by simp; omega) ?_
  refine Du (by simp; omega) ?_
  refine On (by simp; omega) ?_
  rw [if_neg (by omega)]
  rfl
 ·refine Dm (by simp; omega) ?_
  refine Dm (by simp; omega) ?_
  rw [AhG]
  refine P1 (by simp; omega) ?_
  by_cases h2 : y ≤ 191
  ·rw [D8, if_neg (by simp; omega), if_pos (by omega), Ah5, show (v : Int) * 64 = ((v * 64 : Nat) : Int) by omega, Fe _ (by omega) (by omega), Qo, ← Int.natCast_add, Fe _ (by omega) (by omega), Sl _ _ _ (by omega) (by omega), Ey _ _ (by omega)]
   congr 3
   omega
  ·rw [D8, if_pos (by simp; omega), if_neg (by omega)]
   rfl
theorem Ri (n' : Nat) (hnn : n = n' + 1) (m at' N v least : Nat) (hN : N ≤ 3) (hv : v < 100000000) (ha : at' ≤ 1048576) :
  H0 (PR n AV) n k (m + 1) (Bj s) (.sc (.int .i64 at')) (.sc (.int .i64 N)) (.sc (.int .i64 least)) (.sc (.int .i64 v)) (.sc (.int .i64 ((N + 1 : Nat) : Int))) H =
   if v ≥ least ∧ (v < 55296 ∨ (57344 ≤ v ∧ v ≤ 1114111)) then k (.tup [.sc (.int .i64 v), .sc (.int .i64 ((at' + (N + 1) : Nat) : Int)), .sc (.bool true)]) H else k Y9 H := by
 subst hnn
 rw [H0]
 simp only [A9, Aw, Cc, A4, Eg, Bx, Ch]
 rw [T8, D8, if_neg (by simp; omega), AaG]
 by_cases h1 : v < least
 ·have e : decide ((v : Int) < (least : Int)) = true := by simp; omega
  refine Du e ?_
  refine Du e ?_
  refine On e ?_
  refine Du rfl ?_
  refine Du rfl ?_
  refine On rfl ?_
  refine Fo rfl ?_
  rw [if_neg (by omega)]
  rfl
 ·have e : decide ((v : Int) < (least : Int)) = false := by simp; omega
  refine Dm e ?_
  refine Dm e ?_
  refine Bf (v := .sc (.bool (decide ((v : Int) > 1114111)))) (fun k => rfl) ?_
  refine P1 e ?_
  by_cases h2 : v > 1114111
  ·have e2 : decide ((v : Int) > 1114111) = true := by simp; omega
   refine Du e2 ?_
   refine Du e2 ?_
   refine On e2 ?_
   refine Fo rfl ?_
   rw [if_neg (by omega)]
   rfl
  ·have e2 : decide ((v : Int) > 1114111) = false := by simp; omega
   refine Dm e2 ?_
   refine Dm e2 ?_
   refine F5 rfl (Cl (Ed _ _) (Cl (Ed _ _) (Cl (Ed _ _) E6))) (Mw n' _ v 55296 57343) ?_
   refine P1 e2 ?_
   by_cases h3 : 55296 ≤ v ∧ v ≤ 57343
   ·refine Fo (by simp [K0]; omega) ?_
    rw [if_neg (by omega)]
    rfl
   ·refine Gb (by simp [K0]; omega) ?_
    have e5 : ((at' : Int) + 1 + (N : Int)) = ((at' + (N + 1) : Nat) : Int) := by omega
    rw [if_pos (by omega), Qo, Fe _ (by omega) (by omega), Qo, Fe _ (by omega) (by omega), e5]
    rfl
end loop
theorem Et (H : Ac) (a b c : Value) : Bc At E0.tp 224 H (.tup [.sc a, .sc b, .sc c]) = some (.tup [.sc a, .sc b, .sc c]) := rfl
set_option maxHeartbeats 1600000 in
theorem Aef (n : Nat) (hn : 1048576 < n) (s : ByteArray) (i : Nat) (hs : s.size ≤ 1048576) (hi : i < s.size) : Di E0 (n + 2) 224 180 [Bj s, .sc (.int .i64 i)] = some (Py (Lib.decodeL (s.data.toList.drop i)) i) := by
 have hg : ∀ j, (s.data.toList.drop i).getD j 0 = s.data.toList.getD (i + j) 0 := fun j => by simp [List.getD_eq_getElem?_getD, List.getElem?_drop]
 have hL : (s.data.toList.drop i).length = s.size - i := by simp
 have hg0 : (s.data.toList.drop i).getD 0 0 = s.data.toList.getD i 0 := hg 0
 rw [Lib.decodeL_N, hL, hg0, hg 1, hg 2, hg 3]
 obtain ⟨x, hx⟩ : ∃ x, (s.data.toList.getD i 0).toNat = x := ⟨_, rfl⟩
 have hxl : x < 256 := by rw [← hx]; exact (s.data.toList.getD i 0).toNat_lt
 obtain ⟨y1, hy1⟩ : ∃ x, (s.data.toList.getD (i + 1) 0).toNat = x := ⟨_, rfl⟩
 obtain ⟨y2, hy2⟩ : ∃ x, (s.data.toList.getD (i + 2) 0).toNat = x := ⟨_, rfl⟩
 obtain ⟨y3, hy3⟩ : ∃ x, (s.data.toList.getD (i + 3) 0).toNat = x := ⟨_, rfl⟩
 have b1 : y1 < 256 := by rw [← hy1]; exact (s.data.toList.getD (i + 1) 0).toNat_lt
 have b2 : y2 < 256 := by rw [← hy2]; exact (s.data.toList.getD (i + 2) 0).toNat_lt
 have b3 : y3 < 256 := by rw [← hy3]; exact (s.data.toList.getD (i + 3) 0).toNat_lt
 have hba := Age s i hi []
 rw [hx] at hba
 rw [hx, hy1, hy2, hy3]
 have fails : Lib.decodeN (s.size - i) x y1 y2 y3 = (65533, 1) → some Y9 = some (Py (Lib.decodeN (s.size - i) x y1 y2 y3) i) := fun h => by rw [h]; rfl
 have goes : ∀ v w, Lib.decodeN (s.size - i) x y1 y2 y3 = (v, w) → (w = 1 → v < 128) → some (.tup [.sc (.int .i64 v), .sc (.int .i64 ((i + w : Nat) : Int)), .sc (.bool true)]) = some (Py (Lib.decodeN (s.size - i) x y1 y2 y3) i) := fun v w h hw => by
  rw [h, Py, if_neg (by intro h; simp only at h; omega)]
 rw [Bu, Af1, f180]
 simp only [A9, Aw, Cc, A4, Eg, Bx, Ch, Ca]
 have e0 : decide ((i : Int) < 0) = false := by simp
 rw [AaG]
 refine Dm e0 ?_
 refine Dm e0 ?_
 refine Dm e0 ?_
 refine Do ?_
 refine Dm e0 ?_
 refine Bf (v := .sc (.bool (decide ((i : Int) ≥ (s.size : Int))))) (fun k => rfl) ?_
 refine P1 e0 ?_
 refine Gb (by simp; omega) ?_
 rw [hba]
 simp only [Wu, Xo, Option.bind_some]
 rw [Fe _ (by omega) (by omega), AaG]
 by_cases c1 : x < 128
 ·refine Fo (by simp; omega) ?_
  rw [Ey _ _ (by omega)]
  exact (Et _ _ _ _).trans (goes x 1 (by rw [Lib.decodeN, if_pos c1]) (fun _ => c1))
 ·refine Gb (by simp; omega) ?_
  obtain ⟨q, rfl⟩ : ∃ q, n = q + 4 := ⟨n - 4, by omega⟩
  apply B7 (decide ((x : Int) ≥ 192) && decide ((x : Int) < 224))
  ·intro b hb
   refine Bf (v := .sc (.bool (decide ((x : Int) ≥ 192)))) (fun k => rfl) ?_
   refine Ai (decide ((x : Int) ≥ 192)) (fun h => ?_) (fun h => ?_)
   ·refine Bb h ?_
    refine Bb h ?_
    refine Bf (v := .sc (.bool (decide ((x : Int) < 224)))) (fun k => rfl) ?_
    refine Dh h (Ke hb h) ?_
    exact rfl
   ·refine Bd h ?_
    refine Bd h ?_
    refine Df h (Ko hb h) ?_
    exact rfl
  intro b0 hb0
  by_cases d0 : 192 ≤ x ∧ x < 224
  ·refine Fo (by rw [hb0]; simp; omega) ?_
   refine Bf (v := .sc (.int .i64 ((x % 32 : Nat) : Int))) (fun k => by show k (.sc (.int .i64 (bits .and .i64 (x : Int) 31))) = _; rw [AhK ⟨x, hxl⟩]) ?_
   refine Do ?_
   refine Bf (v := .sc (.int .i64 ((s.size : Int) - 1))) (fun k => Sl _ _ _ (by omega) (by omega)) ?_
   refine Bf (v := .sc (.int .i64 ((s.size : Int) - 1 - 1))) (fun k => Sl _ _ _ (by omega) (by omega)) ?_
   refine Bf (v := .sc (.bool (decide ((i : Int) > (s.size : Int) - 1 - 1)))) (fun k => rfl) ?_
   by_cases c3 : i + 1 < s.size
   ·refine Gb (by simp; omega) ?_
    have r1 := Jn (q + 4 + 1) (fun x H => Bc At E0.tp 224 H x) [] s (q + 4) i 1 (x % 32) 1 128 (by omega) (by omega) (by omega) (by omega) hs
    rw [hy1] at r1
    refine r1.trans ?_
    by_cases k1 : y1 / 64 = 2
    rotate_left
    ·rw [if_neg k1]
     exact (Et _ _ _ _).trans (fails (by unfold Lib.decodeN; rw [if_neg c1, if_neg (by omega), if_neg (by omega), if_neg (by omega)]))
    rw [if_pos k1]
    refine (Ri (q + 4 + 1) (fun x H => Bc At E0.tp 224 H x) [] s (q + 4) rfl (q + 3) i 1 ((x % 32) * 64 + y1 % 64) 128 (by omega) (by omega) (by omega)).trans ?_
    have hv : (x % 32) * 64 + y1 % 64 = x % 32 * 64 + y1 % 64 := by omega
    rw [hv]
    split
    ·exact (Et _ _ _ _).trans (goes _ 2 (by unfold Lib.decodeN; rw [if_neg c1, if_pos (by omega), if_pos (by omega)]) (by omega))
    ·exact (Et _ _ _ _).trans (fails (by unfold Lib.decodeN; rw [if_neg c1, if_pos (by omega), if_neg (by omega)]))
   ·refine Fo (by simp; omega) ?_
    exact (Et _ _ _ _).trans (fails (by unfold Lib.decodeN; rw [if_neg c1, if_neg (by omega), if_neg (by omega), if_neg (by omega)]))
  ·refine Gb (by rw [hb0]; simp; omega) ?_
   apply B7 (decide ((x : Int) ≥ 224) && decide ((x : Int) < 240))
   ·intro b hb
    refine Bf (v := .sc (.bool (decide ((x : Int) ≥ 224)))) (fun k => rfl) ?_
    refine Ai (decide ((x : Int) ≥ 224)) (fun h => ?_) (fun h => ?_)
    ·refine Bb h ?_
     refine Bb h ?_
     refine Bf (v := .sc (.bool (decide ((x : Int) < 240)))) (fun k => rfl) ?_
     refine Dh h (Ke hb h) ?_
     exact rfl
    ·refine Bd h ?_
     refine Bd h ?_
     refine Df h (Ko hb h) ?_
     exact rfl
   intro b1 hb1
   by_cases d1 : 224 ≤ x ∧ x < 240
   ·refine Fo (by rw [hb1]; simp; omega) ?_
    refine Bf (v := .sc (.int .i64 ((x % 16 : Nat) : Int))) (fun k => by show k (.sc (.int .i64 (bits .and .i64 (x : Int) 15))) = _; rw [AhP ⟨x, hxl⟩]) ?_
    refine Do ?_
    refine Bf (v := .sc (.int .i64 ((s.size : Int) - 1))) (fun k => Sl _ _ _ (by omega) (by omega)) ?_
    refine Bf (v := .sc (.int .i64 ((s.size : Int) - 1 - 2))) (fun k => Sl _ _ _ (by omega) (by omega)) ?_
    refine Bf (v := .sc (.bool (decide ((i : Int) > (s.size : Int) - 1 - 2)))) (fun k => rfl) ?_
    by_cases c3 : i + 2 < s.size
    ·refine Gb (by simp; omega) ?_
     have r1 := Jn (q + 4 + 1) (fun x H => Bc At E0.tp 224 H x) [] s (q + 4) i 2 (x % 16) 1 2048 (by omega) (by omega) (by omega) (by omega) hs
     rw [hy1] at r1
     refine r1.trans ?_
     by_cases k1 : y1 / 64 = 2
     rotate_left
     ·rw [if_neg k1]
      exact (Et _ _ _ _).trans (fails (by unfold Lib.decodeN; rw [if_neg c1, if_neg (by omega), if_neg (by omega), if_neg (by omega)]))
     rw [if_pos k1]
     have r2 := Jn (q + 4 + 1) (fun x H => Bc At E0.tp 224 H x) [] s (q + 3) i 2 ((x % 16) * 64 + y1 % 64) 2 2048 (by omega) (by omega) (by omega) (by omega) hs
     rw [hy2] at r2
     refine r2.trans ?_
     by_cases k2 : y2 / 64 = 2
     rotate_left
     ·rw [if_neg k2]
      exact (Et _ _ _ _).trans (fails (by unfold Lib.decodeN; rw [if_neg c1, if_neg (by omega), if_neg (by omega), if_neg (by omega)]))
     rw [if_pos k2]
     refine (Ri (q + 4 + 1) (fun x H => Bc At E0.tp 224 H x) [] s (q + 4) rfl (q + 2) i 2 (((x % 16) * 64 + y1 % 64) * 64 + y2 % 64) 2048 (by omega) (by omega) (by omega)).trans ?_
     have hv : ((x % 16) * 64 + y1 % 64) * 64 + y2 % 64 = x % 16 * 4096 + y1 % 64 * 64 + y2 % 64 := by omega
     rw [hv]
     split
     ·exact (Et _ _ _ _).trans (goes _ 3 (by unfold Lib.decodeN; rw [if_neg c1, if_neg (by omega), if_pos (by omega), if_pos (by omega)]) (by omega))
     ·exact (Et _ _ _ _).trans (fails (by unfold Lib.decodeN; rw [if_neg c1, if_neg (by omega), if_pos (by omega), if_neg (by omega)]))
    ·refine Fo (by simp; omega) ?_
     exact (Et _ _ _ _).trans (fails (by unfold Lib.decodeN; rw [if_neg c1, if_neg (by omega), if_neg (by omega), if_neg (by omega)]))
   ·refine Gb (by rw [hb1]; simp; omega) ?_
    apply B7 (decide ((x : Int) ≥ 240) && decide ((x : Int) < 248))
    ·intro b hb
     refine Bf (v := .sc (.bool (decide ((x : Int) ≥ 240)))) (fun k => rfl) ?_
     refine Ai (decide ((x : Int) ≥ 240)) (fun h => ?_) (fun h => ?_)
     ·refine Bb h ?_
      refine Bb h ?_
      refine Bf (v := .sc (.bool (decide ((x : Int) < 248)))) (fun k => rfl) ?_
      refine Dh h (Ke hb h) ?_
      exact rfl
     ·refine Bd h ?_
      refine Bd h ?_
      refine Df h (Ko hb h) ?_
      exact rfl
    intro b2 hb2
    by_cases d2 : 240 ≤ x ∧ x < 248
    ·refine Fo (by rw [hb2]; simp; omega) ?_
     refine Bf (v := .sc (.int .i64 ((x % 8 : Nat) : Int))) (fun k => by show k (.sc (.int .i64 (bits .and .i64 (x : Int) 7))) = _; rw [AhQ ⟨x, hxl⟩]) ?_
     refine Do ?_
     refine Bf (v := .sc (.int .i64 ((s.size : Int) - 1))) (fun k => Sl _ _ _ (by omega) (by omega)) ?_
     refine Bf (v := .sc (.int .i64 ((s.size : Int) - 1 - 3))) (fun k => Sl _ _ _ (by omega) (by omega)) ?_
     refine Bf (v := .sc (.bool (decide ((i : Int) > (s.size : Int) - 1 - 3)))) (fun k => rfl) ?_
     by_cases c3 : i + 3 < s.size
     ·refine Gb (by simp; omega) ?_
      have r1 := Jn (q + 4 + 1) (fun x H => Bc At E0.tp 224 H x) [] s (q + 4) i 3 (x % 8) 1 65536 (by omega) (by omega) (by omega) (by omega) hs
      rw [hy1] at r1
      refine r1.trans ?_
      by_cases k1 : y1 / 64 = 2
      rotate_left
      ·rw [if_neg k1]
       exact (Et _ _ _ _).trans (fails (by unfold Lib.decodeN; rw [if_neg c1, if_neg (by omega), if_neg (by omega), if_neg (by omega)]))
      rw [if_pos k1]
      have r2 := Jn (q + 4 + 1) (fun x H => Bc At E0.tp 224 H x) [] s (q + 3) i 3 ((x % 8) * 64 + y1 % 64) 2 65536 (by omega) (by omega) (by omega) (by omega) hs
      rw [hy2] at r2
      refine r2.trans ?_
      by_cases k2 : y2 / 64 = 2
      rotate_left
      ·rw [if_neg k2]
       exact (Et _ _ _ _).trans (fails (by unfold Lib.decodeN; rw [if_neg c1, if_neg (by omega), if_neg (by omega), if_neg (by omega)]))
      rw [if_pos k2]
      have r3 := Jn (q + 4 + 1) (fun x H => Bc At E0.tp 224 H x) [] s (q + 2) i 3 (((x % 8) * 64 + y1 % 64) * 64 + y2 % 64) 3 65536 (by omega) (by omega) (by omega) (by omega) hs
      rw [hy3] at r3
      refine r3.trans ?_
      by_cases k3 : y3 / 64 = 2
      rotate_left
      ·rw [if_neg k3]
       exact (Et _ _ _ _).trans (fails (by unfold Lib.decodeN; rw [if_neg c1, if_neg (by omega), if_neg (by omega), if_neg (by omega)]))
      rw [if_pos k3]
      refine (Ri (q + 4 + 1) (fun x H => Bc At E0.tp 224 H x) [] s (q + 4) rfl (q + 1) i 3 ((((x % 8) * 64 + y1 % 64) * 64 + y2 % 64) * 64 + y3 % 64) 65536 (by omega) (by omega) (by omega)).trans ?_
      have hv : (((x % 8) * 64 + y1 % 64) * 64 + y2 % 64) * 64 + y3 % 64 = x % 8 * 262144 + y1 % 64 * 4096 + y2 % 64 * 64 + y3 % 64 := by omega
      rw [hv]
      split
      ·exact (Et _ _ _ _).trans (goes _ 4 (by unfold Lib.decodeN; rw [if_neg c1, if_neg (by omega), if_neg (by omega), if_pos (by omega), if_pos (by omega)]) (by omega))
      ·exact (Et _ _ _ _).trans (fails (by unfold Lib.decodeN; rw [if_neg c1, if_neg (by omega), if_neg (by omega), if_pos (by omega), if_neg (by omega)]))
     ·refine Fo (by simp; omega) ?_
      exact (Et _ _ _ _).trans (fails (by unfold Lib.decodeN; rw [if_neg c1, if_neg (by omega), if_neg (by omega), if_neg (by omega)]))
    ·refine Gb (by rw [hb2]; simp; omega) ?_
     exact (Et _ _ _ _).trans (fails (by unfold Lib.decodeN; rw [if_neg c1, if_neg (by omega), if_neg (by omega), if_neg (by omega)]))
theorem Uc (N ty : Nat) (a b c : Value) : Bo At E0.tp N ty (.tup [.sc a, .sc b, .sc c]) = (.tup [.sc a, .sc b, .sc c], []) := rfl
theorem Ad5 (s : ByteArray) : Vw [⟨Bh s, true, false⟩] (.sl 0 0 s.size 1) (Bj s) := fun X => by
 have e2 : Ba ([⟨Bh s, true, false⟩] ++ X) 0 0 (s.size * 1) = some (Bh s) := by
  have hl := Ef s
  show (if (0 + s.size * 1 ≤ (Bh s).length) then some (((Bh s).drop 0).take (s.size * 1)) else none) = _
  rw [if_pos (by omega), List.drop_zero, Nat.mul_one, ← hl, List.take_length]
 rw [Oh, e2, Option.bind_some]
 have e3 : (Bh s).mapM (Ds ([⟨Bh s, true, false⟩] ++ X) 7) = some (Bh s) := by
  rw [Jv]
  exact Aai _
 rw [e3]
 rfl
theorem Ju {vs : List AV} {i : Nat} {x : AV} {K : AV → Option AV} {r : Option AV} (hx : vs[i]? = some x) (h : K x = r) : Qm (.tup vs) i (fun t => K t) = r := by
 show (vs[i]?).bind _ = r
 rw [hx]
 exact h
theorem Ta (n : Nat) (hn : 1048576 < n) (k : AV → Ac → Option AV) (s : ByteArray) (hs : s.size ≤ 60) : ∀ (b m pos c : Nat), s.size ≤ pos + b → pos ≤ s.size → c ≤ pos → b < m →
  ∃ r : Int, Nb (PR (n + 2) AV) (n + 2) k m (.sl 0 0 s.size 1) (.sc (.int .i64 c)) (.sc (.int .i64 pos)) [⟨Bh s, true, false⟩] = k (.sc (.int .i64 r)) [⟨Bh s, true, false⟩] ∧ (P2 b (s.data.toList.drop pos) = true → 0 ≤ r) ∧ (P2 b (s.data.toList.drop pos) = false → r = -1)
 | b, m + 1, pos, c, hb, hp, hc, hm => by
  rw [Nb]
  simp only [Ca, A9, Aw, Fc, Ew, Bx, Ch]
  have hlen : ∀ k : AV → Option AV, P8 (.sl 0 0 s.size 1) k = k (.sc (.int .i64 s.size)) := fun _ => rfl
  rw [hlen, D2, D8]
  by_cases hlt : pos < s.size
  ·rw [if_pos (by simpa using hlt)]
   obtain ⟨b, rfl⟩ : ∃ b', b = b' + 1 := ⟨b - 1, by omega⟩
   have hne : s.data.toList.drop pos ≠ [] := by
    intro h
    have := congrArg List.length h
    simp at this
    omega
   have hw := Lib.decodeL_width (s.data.toList.drop pos)
   have hle := Lib.decodeL_le (s.data.toList.drop pos) hne
   have hll : (s.data.toList.drop pos).length = s.size - pos := by simp
   rw [hll] at hle
   rw [P2, if_neg hne]
   generalize hd : Lib.decodeL (s.data.toList.drop pos) = d at hw hle ⊢
   have ht := Aef n hn s pos (by omega) hlt
   rw [hd] at ht
   rw [El (vs := [Bj s, .sc (.int .i64 pos)]) rfl (Cl (Ad5 s) (Cl (Ed _ _) E6)) ht]
   by_cases hf : d.1 = 65533 ∧ d.2 = 1
   ·rw [Py, if_pos hf, Uc, List.append_nil, if_pos hf]
    refine ⟨-1, ?_, (fun h => by cases h), (fun _ => rfl)⟩
    refine Ju rfl ?_
    refine Ju rfl ?_
    refine Ju rfl ?_
    refine Ii ?_
    refine Du rfl ?_
    refine Du rfl ?_
    refine On rfl ?_
    refine Fo rfl ?_
    rfl
   ·rw [Py, if_neg hf, Uc, List.append_nil, if_neg hf]
    by_cases hz : d.1 = 0
    ·rw [if_pos hz]
     refine ⟨-1, ?_, (fun h => by cases h), (fun _ => rfl)⟩
     refine Ju rfl ?_
     refine Ju rfl ?_
     refine Ju rfl ?_
     refine Ii ?_
     refine Dm rfl ?_
     refine Dm rfl ?_
     refine Bf (v := .sc (.bool ((d.1 : Int) == 0))) (fun k => rfl) ?_
     refine P1 rfl ?_
     refine Fo (by simp [hz]) ?_
     rfl
    ·rw [if_neg hz, List.drop_drop]
     obtain ⟨r, h1, h2, h3⟩ := Ta n hn k s hs b m (pos + d.2) (c + 1) (by omega) (by omega) (by omega) (by omega)
     refine ⟨r, ?_, h2, h3⟩
     refine Ju rfl ?_
     refine Ju rfl ?_
     refine Ju rfl ?_
     refine Ii ?_
     refine Dm rfl ?_
     refine Dm rfl ?_
     refine Bf (v := .sc (.bool ((d.1 : Int) == 0))) (fun k => rfl) ?_
     refine P1 rfl ?_
     refine Gb (by simp; omega) ?_
     rw [Ey _ _ (by omega)]
     exact h1
  ·rw [if_neg (by simpa using hlt)]
   have hnil : s.data.toList.drop pos = [] := by
    apply List.drop_of_length_le
    simp
    omega
   refine ⟨c, rfl, fun _ => by omega, fun h => ?_⟩
   rw [hnil] at h
   cases b <;> simp [P2] at h
theorem Ahi (n : Nat) (hn : 1048576 < n) (ty : Nat) (s : ByteArray) : ∃ r : Int, Di E0 (n + 3) ty 170 [.sc (.string s)] = some (.sc (.int .i64 r)) ∧ (G1 s = true → 0 ≤ r) ∧ (G1 s = false → r = -1) := by
 rw [Bu, Aec, f170]
 simp only [Dx, A9, Aw, Nn]
 unfold G1
 by_cases h : s.size ≤ 60
 ·obtain ⟨r, h1, h2, h3⟩ := Ta n hn (fun x H => Bc At E0.tp ty H x) s h s.size (n + 2) 0 0 (by omega) (by omega) (by omega) (by omega)
  refine ⟨r, ?_, ?_, ?_⟩
  ·refine AdU ?_
   refine Bf (v := .sc (.bool (decide ((s.size : Int) > 60)))) (fun k => rfl) ?_
   refine Gb (by simp; omega) ?_
   simp only [Vu, asS, Option.bind_some]
   rw [if_pos (by omega)]
   exact h1
  ·intro hv
   refine h2 ?_
   simpa [h] using hv
  ·intro hv
   refine h3 ?_
   simpa [h] using hv
 ·refine ⟨-1, ?_, (fun hv => by simp [h] at hv), (fun _ => rfl)⟩
  refine AdU ?_
  refine Bf (v := .sc (.bool (decide ((s.size : Int) > 60)))) (fun k => rfl) ?_
  refine Fo (by simp; omega) ?_
  rfl
theorem Uo (n : Nat) (hn : 1048576 < n) (ty : Nat) (s : ByteArray) : Di E0 (n + 4) ty 153 [.sc (.string s)] = some (.sc (.bool (G1 s))) := by
 rw [Bu, AeB, f153]
 simp only [A9]
 obtain ⟨r, h1, h2, h3⟩ := Ahi n hn 3 s
 refine F5 rfl (Cl (Ed _ _) E6) h1 ?_
 refine Bf (v := .sc (.bool (decide (r ≥ 0)))) (fun k => rfl) ?_
 refine Gz ?_
 cases hv : G1 s
 ·rw [h3 hv]
  rfl
 ·simpa using h2 hv
end
section
open Go
def Mo (s : ByteArray) : Bool := G1 s && !(s.toList == (⟨#[]⟩ : ByteArray).toList) && !(Sr s 43) && !(Sr s 35) && decide (((Nj s).length : Int) ≤ 6)
section
variable {β : Type} {n : Nat} {H : Ac} {r : Option β}
theorem AeA {ty f len : Nat} {args vs cells : List AV} {K : KO β} (hh : F4 f = false) (hv : args.mapM (Ds H 8) = some vs) (ht : Di E0 n ty f vs = some (.ro len cells)) (h : ∀ N X sz, K (.sl N 0 len sz) (H ++ X) = r) : (PR n β).call ty (.fn f [] []) args H (fun x H => K x H) = r := by
 rw [El hh hv ht]
 exact h _ _ _
theorem Agx {b b' : Bool} (h : b = b') : some (AV.sc (.bool b)) = some (AV.sc (.bool b')) := by rw [h]
theorem Jg {α : Type} {w : Nat} {enc : α → List AV} {l pre t : List α} {x : α} {K : AV → Option β} (hw : ∀ x, (enc x).length = w) (h0 : 0 < w) (hl : l = pre ++ x :: t) (h : K (.rp (enc x ++ (t.map enc).flatten)) = r) : E7 w (Al enc l) (.sc (.int .i64 (pre.length : Int))) (fun t => K t) = r := by
 subst hl
 exact (Oy (β := β) hw h0 pre x t (fun t => K t)).trans h
theorem Afr {α : Type} {w : Nat} {enc : α → List AV} {l pre t : List α} {K : AV → Option β} (hw : ∀ x, (enc x).length = w) (h0 : 0 < w) (hp : decide ((pre.length : Int) > 0) = true) (hl : l = pre ++ t) (hlen : l.length ≤ 1048576) (h : ∀ y, pre.getLast? = some y → K (.rp (enc y ++ (t.map enc).flatten)) = r) : E7 w (Al enc l) (.sc (.int .i64 (IntKind.i64.wrap ((pre.length : Int) - 1)))) (fun t => K t) = r := by
 cases hg : pre.getLast? with
 | none =>
  rw [List.getLast?_eq_none_iff] at hg
  subst hg
  simp at hp
 | some y =>
  obtain ⟨p, rfl⟩ := List.getLast?_eq_some_iff.1 hg
  have hlp : p.length < 1048576 := by
   rw [hl] at hlen
   simp at hlen
   omega
  have e : IntKind.i64.wrap (((p ++ [y]).length : Int) - 1) = (p.length : Int) := by
   rw [List.length_append, List.length_singleton, Fe _ (by omega) (by omega)]
   omega
  rw [e]
  exact Jg hw h0 (hl.trans (by simp)) (h y hg)
theorem AgY {id off m w : Nat} {K : AV → Option β} (h : K (.sc (.int .i64 m)) = r) : P8 (.sl id off m w) (fun t => K t) = r := h
end
section has
variable (n : Nat) (k : AV → Ac → Option AV) (H : Ac)
theorem Wd (s : ByteArray) (b : UInt8) (hs : s.size ≤ 1048576) : ∀ (r pre : List UInt8) (m : Nat), s.data.toList = pre ++ r → r.length < m →
  L6 (PR n AV) n k m (.sc (.string s)) (.sc (.int .u8 b.toNat)) (.sc (.int .i64 pre.length)) H = k (.sc (.bool (r.any fun c => c == b))) H
 | [], pre, m + 1, hl, hm => by
  have h1 : s.size = pre.length := by
   have := congrArg List.length hl
   simpa using this
  rw [L6]
  simp only [Dx, A9, Aw]
  rw [Oz, D2, h1, D8, if_neg (by simp)]
  rfl
 | c :: r, pre, m + 1, hl, hm => by
  have h1 : s.size = pre.length + r.length + 1 := by
   have := congrArg List.length hl
   simpa [Nat.add_assoc] using this
  rw [L6]
  simp only [Dx, A9, Aw, Fn]
  rw [Oz, D2, D8, if_pos (by simp; omega), Adv s pre.length c _ (by rw [hl]; simp)]
  have he : ∀ K : AV → Option AV, Fh .eql (.sc (.int .u8 (c.toNat : Int))) (.sc (.int .u8 (b.toNat : Int))) K = K (.sc (.bool (c == b))) := by
   intro K
   show K (.sc (.bool ((c.toNat : Int) == (b.toNat : Int)))) = _
   congr 3
   rw [Bool.eq_iff_iff, beq_iff_eq, beq_iff_eq, Int.ofNat_inj, UInt8.toNat_inj]
  rw [he, D8, List.any_cons]
  cases hcb : (c == b)
  ·rw [if_neg (by simp), Ey _ _ (by omega)]
   have ih := Wd s b hs r (pre ++ [c]) m (by rw [hl]; simp) (by simpa using hm)
   rw [List.length_append, List.length_singleton] at ih
   rw [ih]
   rfl
  ·rw [if_pos rfl]
   rfl
end has
theorem Ah4 (n : Nat) (hn : 1048576 < n) (ty : Nat) (s : ByteArray) (b : UInt8) (hs : s.size ≤ 1048576) : Di E0 (n + 1) ty 186 [.sc (.string s), .sc (.int .u8 b.toNat)] = some (.sc (.bool (Sr s b))) := by
 rw [Bu, Aen, f186]
 have key := Wd n (fun x H => Bc At E0.tp ty H x) [] s b hs s.data.toList [] n rfl (by simp; omega)
 simp only [List.length_nil, Int.natCast_zero] at key
 rw [key]
 rfl
theorem AhC (n : Nat) (hn : 1048576 < n) (ty : Nat) (s : ByteArray) (hs : s.size ≤ 1048576) : Di E0 (n + 1) ty 186 [.sc (.string s), .sc (.int .u8 43)] = some (.sc (.bool (Sr s 43))) := Ah4 n hn ty s 43 hs
theorem AhA (n : Nat) (hn : 1048576 < n) (ty : Nat) (s : ByteArray) (hs : s.size ≤ 1048576) : Di E0 (n + 1) ty 186 [.sc (.string s), .sc (.int .u8 35)] = some (.sc (.bool (Sr s 35))) := Ah4 n hn ty s 35 hs
theorem AeZ : ∃ i j, At 32 = some i ∧ At i.elem = some j ∧ j.size = 1 ∧ j.cty = [i.elem] := ⟨_, _, rfl, rfl, rfl, rfl⟩
def Ae5 (l : List UInt8) : AV := .sc (.string (ofL l))
theorem W5 (s : ByteArray) (P cur r : List UInt8) (h : s.data.toList = P ++ (cur ++ r)) : s.extract P.length (P.length + cur.length) = ofL cur := by
 have : (s.extract P.length (P.length + cur.length)).data.toList = cur := by
  rw [ByteArray.data_extract, Array.toList_extract, List.extract, h]
  rw [List.drop_append_of_le_length (Nat.le_refl _), List.drop_length, List.nil_append, Nat.add_sub_cancel_left, List.take_append_of_le_length (Nat.le_refl _), List.take_length]
 rw [← Ad9 (s.extract _ _), this]
theorem T4 {H : Ac} {x : AV} {cnt : Nat} {cells : List AV} {K : AV → Ac → Option AV} {r : Option AV} (s : ByteArray) (P cur rest : List UInt8) (hl : s.data.toList = P ++ (cur ++ rest)) (hs : s.size ≤ 1048576) (hx : OwnS 7 H 1 [9] x cnt cells) (hc : cnt ≤ 1048577)
  (h : ∀ x' H', OwnS 7 H' 1 [9] x' (cnt + 1) (cells ++ [Ae5 cur]) → K x' H' = r) :
  (Of (.sc (.string s)) (some (.sc (.int .i64 P.length))) (some (.sc (.int .i64 ((P.length + cur.length : Nat) : Int)))) fun t27 => (Ev [(.sc (.string ⟨#[]⟩))] [(0, 1, t27)]).bind fun ct28 => Fj 1 1 ct28 true H fun t28 H => Hh 1 16 x t28 H K) = r := by
 have hsz : P.length + cur.length ≤ s.size := by
  have := congrArg List.length hl
  simp at this
  omega
 simp only [Of, asS, Jp, Xo, Option.bind_some]
 rw [if_pos (by omega)]
 simp only [Int.toNat_natCast]
 rw [W5 s P cur rest hl]
 have hf : Ev [(.sc (.string ⟨#[]⟩))] [(0, 1, .sc (.string (ofL cur)))] = some [.sc (.string (ofL cur))] := rfl
 rw [hf, Option.bind_some]
 have key := Aaa (H := H) (X := []) (bytes := 16) (er := [.sc (.string (ofL cur))]) (ec := [Ae5 cur]) (eids := []) (K := K) (r := r) hx rfl rfl rfl List.nodup_nil (fun i hi => by cases hi) (by omega) h
 rw [List.append_nil] at key
 exact key
theorem Tg (n : Nat) (s : ByteArray) (hs : s.size ≤ 1048576) : ∀ (r P cur : List UInt8) (m : Nat) (x : AV) (H : Ac) (cnt : Nat) (cells : List AV), s.data.toList = P ++ (cur ++ r) → r.length + 1 < m → OwnS 7 H 1 [9] x cnt cells → cnt ≤ P.length →
  Jm (PR n AV) n (fun x H => Bc At E0.tp 32 H x) m (.sc (.string s)) x (.sc (.int .i64 P.length)) (.sc (.int .i64 ((P.length + cur.length : Nat) : Int))) H = some (.ro (cnt + (lvL cur r).length) (cells ++ (lvL cur r).map Ae5))
 | [], P, cur, m + 2, x, H, cnt, cells, hl, hm, hx, hc => by
  have h1 : s.size = P.length + cur.length := by
   have := congrArg List.length hl
   simpa using this
  rw [Jm]
  simp only [Dx, A9, Aw, Bx, Ch, Dj, Be, Bm, Cy, Fn]
  rw [Oz, T8, D8, if_pos (by simp; omega), Oz, AfT]
  have he : (((P.length + cur.length : Nat) : Int) == (s.size : Int)) = true := by simp; omega
  refine Du he ?_
  refine Du he ?_
  refine Du he ?_
  refine Du he ?_
  refine On he ?_
  refine Fo rfl ?_
  refine T4 s P cur [] hl hs hx (by omega) fun x' H' hx' => ?_
  rw [Ey _ _ (by omega), Ey _ _ (by omega)]
  rw [Jm]
  simp only [Dx, A9, Aw]
  rw [Oz, T8, D8, if_neg (by simp; omega)]
  obtain ⟨i, j, e1, e2, e3, e4⟩ := AeZ
  obtain ⟨ids, ho, hno⟩ := Rc (d := 7) (tyS := 32) (w := 1) (cty := [9]) ⟨_, _, rfl, rfl, rfl, rfl⟩ hx'
  rw [Bc, ho, Option.bind_some, if_pos hno]
  rfl
 | c :: r, P, cur, m + 1, x, H, cnt, cells, hl, hm, hx, hc => by
  have h1 : s.size = P.length + cur.length + r.length + 1 := by
   have := congrArg List.length hl
   simp at this
   omega
  have hidx : s.data.toList[P.length + cur.length]? = some c := by
   rw [hl, ← List.append_assoc, ← List.length_append, List.getElem?_append_right (Nat.le_refl _), Nat.sub_self]
   rfl
  rw [Jm]
  simp only [Dx, A9, Aw, Bx, Ch, Dj, Be, Bm, Cy, Fn]
  rw [Oz, T8, D8, if_pos (by simp; omega), Oz, AfT]
  have he : (((P.length + cur.length : Nat) : Int) == (s.size : Int)) = false := by simp; omega
  refine Dm he ?_
  refine Dm he ?_
  refine Dm he ?_
  rw [Adv s (P.length + cur.length) c _ hidx]
  refine Dm he ?_
  refine Bf (v := .sc (.bool (c == 47))) (fun K => ?_) ?_
  ·show K (.sc (.bool ((c.toNat : Int) == (47 : Int)))) = _
   congr 3
   rw [Bool.eq_iff_iff, beq_iff_eq, beq_iff_eq, show (47 : Int) = (((47 : UInt8).toNat : Nat) : Int) from rfl, Int.ofNat_inj, UInt8.toNat_inj]
  refine P1 he ?_
  rw [lvL]
  by_cases h47 : c = 47
  ·refine Fo (by simp [h47]) ?_
   refine T4 s P cur (c :: r) hl hs hx (by omega) fun x' H' hx' => ?_
   rw [Ey _ _ (by omega), Ey _ _ (by omega), if_pos h47]
   have ih := Tg n s hs r (P ++ cur ++ [c]) [] m x' H' (cnt + 1) (cells ++ [Ae5 cur]) (by rw [hl]; simp) (by simpa using hm) hx' (by simp; omega)
   simp only [List.length_append, List.length_nil, List.length_singleton, Nat.add_zero] at ih
   rw [ih]
   simp [Nat.add_assoc, Nat.add_comm]
  ·refine Gb (by simpa using h47) ?_
   rw [Ey _ _ (by omega), if_neg h47]
   have ih := Tg n s hs r P (cur ++ [c]) m x H cnt cells (by rw [hl]; simp) (by simpa using hm) hx hc
   rw [List.length_append, List.length_singleton, ← Nat.add_assoc] at ih
   exact ih
theorem Wx (n : Nat) (hn : 1048577 < n) (s : ByteArray) (hs : s.size ≤ 1048576) : Di E0 (n + 1) 32 187 [.sc (.string s)] = some (.ro (Nj s).length ((Nj s).map fun x => .sc (.string x))) := by
 rw [Bu, Afc, f187]
 have key := Tg n s hs s.data.toList [] [] n .nl [] 0 [] rfl (by simp; omega) (OwnS.nil _ _ _ _) (by simp)
 simp only [List.length_nil, Int.natCast_zero, Nat.zero_add, List.nil_append] at key
 rw [key, Nj, List.length_map, List.map_map]
 rfl
end
section
open Go
theorem Yq (n : Nat) (hn : 1048576 < n) (ty : Nat) (s : ByteArray) (hs : s.size ≤ 1048576) : Di E0 (n + 5) ty 181 [.sc (.string s)] = some (.sc (.bool (Mo s))) := by
 rw [Bu, AfF, f181]
 try simp only [De, Cj, Bi, A4, A6, A9, Ep, Er, Ew, Aw, Bx, Ch, Ca, Dx, Cc, Fn, D1, Dj, Bm, Be, Fm, Cy, Eg, E8]
 refine F5 rfl (Cl (Ed _ _) E6) (Uo (n + 0) (by omega) _ s) ?_
 apply B7 ((G1 s) && (!(s.toList == (⟨#[]⟩ : ByteArray).toList)))
 ·intro b1 q1
  refine Ai ((G1 s)) (fun h1 => ?_) (fun h1 => ?_)
  ·refine Bb h1 ?_
   refine Bb h1 ?_
   refine Bf (v := .sc (.bool (!(s.toList == (⟨#[]⟩ : ByteArray).toList)))) (fun k => rfl) ?_
   refine Dh h1 (Ke q1 h1) ?_
   exact rfl
  ·refine Bd h1 ?_
   refine Bd h1 ?_
   refine Df h1 (Ko q1 h1) ?_
   exact rfl
 intro b1 q1
 apply B7 (b1 && (!(Sr s 43)))
 ·intro b2 q2
  refine Ai (b1) (fun h2 => ?_) (fun h2 => ?_)
  ·refine Bb h2 ?_
   refine Bb h2 ?_
   refine F5 rfl (Cl (Ed _ _) (Cl (Ed _ _) E6)) (AhC (n + 3) (by omega) _ s hs) ?_
   refine Bb h2 ?_
   refine Ii ?_
   refine Dh h2 (Ke q2 h2) ?_
   exact rfl
  ·refine Bd h2 ?_
   refine Bd h2 ?_
   refine Bd h2 ?_
   refine Df h2 (Ko q2 h2) ?_
   exact rfl
 intro b2 q2
 apply B7 (b2 && (!(Sr s 35)))
 ·intro b3 q3
  refine Ai (b2) (fun h3 => ?_) (fun h3 => ?_)
  ·refine Bb h3 ?_
   refine Bb h3 ?_
   refine F5 rfl (Cl (Ed _ _) (Cl (Ed _ _) E6)) (AhA (n + 3) (by omega) _ s hs) ?_
   refine Bb h3 ?_
   refine Ii ?_
   refine Dh h3 (Ke q3 h3) ?_
   exact rfl
  ·refine Bd h3 ?_
   refine Bd h3 ?_
   refine Bd h3 ?_
   refine Df h3 (Ko q3 h3) ?_
   exact rfl
 intro b3 q3
 apply B7 (b3 && (decide (((Nj s).length : Int) ≤ 6)))
 ·intro b4 q4
  refine Ai (b3) (fun h4 => ?_) (fun h4 => ?_)
  ·refine Bb h4 ?_
   refine Bb h4 ?_
   refine AeA rfl (Cl (Ed _ _) E6) (Wx (n + 3) (by omega) s hs) fun N5 X5 z5 => ?_
   refine Bb h4 ?_
   refine AgY ?_
   refine Bb h4 ?_
   refine Bf (v := .sc (.bool (decide (((Nj s).length : Int) ≤ 6)))) (fun k => rfl) ?_
   refine Dh h4 (Ke q4 h4) ?_
   exact rfl
  ·refine Bd h4 ?_
   refine Bd h4 ?_
   refine Bd h4 ?_
   refine Bd h4 ?_
   refine Df h4 (Ko q4 h4) ?_
   exact rfl
 intro b4 q4
 exact Agx (by subst_vars; unfold Mo; first | rfl | (unfold vPH; cases G1 s <;> cases Sr s 43 <;> cases Sr s 35 <;> simp))
def G3 (m : Da) : Bool := Mo m.fTopic && decide ((m.fBody.size : Int) ≤ 40) && K0 m.fQos 0 2
theorem R0 (n : Nat) (hn : 1048576 < n) (ty : Nat) (m : Da) (hs : m.fTopic.size ≤ 1048576) : Di E0 (n + 6) ty 171 [.agg (Au m)] = some (.sc (.bool (G3 m))) := by
 rw [Bu, AfD, f171]
 try simp only [De, Cj, Bi, A4, A6, A9, Ep, Er, Ew, Aw, Bx, Ch, Ca, Dx, Cc, Fn, D1, Dj, Bm, Be, Fm, Cy, Eg, E8]
 refine Qu (Hg _) fun iB1 eB1 B1 => ?_
 refine Ap ?_
 refine Ce (c := .sc (.string m.fTopic)) B1 (A7 rfl) rfl ?_
 refine F5 rfl (Cl (Ed _ _) E6) (Yq (n + 0) (by omega) _ m.fTopic (by assumption)) ?_
 apply B7 ((Mo m.fTopic) && (decide ((m.fBody.size : Int) ≤ 40)))
 ·intro b2 q2
  refine Ai ((Mo m.fTopic)) (fun h2 => ?_) (fun h2 => ?_)
  ·refine Bb h2 ?_
   refine Ap ?_
   refine Bb h2 ?_
   refine Ce (c := Bj m.fBody) B1 (A7 rfl) rfl ?_
   refine Bb h2 ?_
   refine Do ?_
   refine Bb h2 ?_
   refine Bf (v := .sc (.bool (decide ((m.fBody.size : Int) ≤ 40)))) (fun k => rfl) ?_
   refine Dh h2 (Ke q2 h2) ?_
   exact rfl
  ·refine Bd h2 ?_
   refine Bd h2 ?_
   refine Bd h2 ?_
   refine Bd h2 ?_
   refine Df h2 (Ko q2 h2) ?_
   exact rfl
 intro b2 q2
 apply B7 (b2 && (K0 m.fQos 0 2))
 ·intro b3 q3
  refine Ai (b2) (fun h3 => ?_) (fun h3 => ?_)
  ·refine Bb h3 ?_
   refine Ap ?_
   refine Bb h3 ?_
   refine Ce (c := .sc (.int .i64 m.fQos)) B1 (A7 rfl) rfl ?_
   refine Bb h3 ?_
   refine F5 rfl (Cl (Ed _ _) (Cl (Ed _ _) (Cl (Ed _ _) E6))) (Mw (n + 4) _ m.fQos 0 2) ?_
   refine Dh h3 (Ke q3 h3) ?_
   exact rfl
  ·refine Bd h3 ?_
   refine Bd h3 ?_
   refine Bd h3 ?_
   refine Df h3 (Ko q3 h3) ?_
   exact rfl
 intro b3 q3
 exact Gz (by subst_vars; first | rfl | (simp only [G3]; done) | (simp only [G3]; ac_rfl))
def Hu (l : List Da) : Bool := l.all G3 && decide ((l.length : Int) ≤ 6)
theorem Ade {α : Type} (p : α → Bool) (e : Bool) (go : List α → List α → Bool) (h0 : ∀ pre, go pre [] = e) (h1 : ∀ pre x r, go pre (x :: r) = (p x && go (pre ++ [x]) r)) : ∀ (r pre : List α), go pre r = (r.all p && e)
 | [], pre => by rw [h0]; simp
 | x :: r, pre => by rw [h1, Ade p e go h0 h1 r, List.all_cons, Bool.and_assoc]
def Uw (l : List Da) : List Da → List Da → Bool
 | pre, [] => decide ((l.length : Int) ≤ 6)
 | pre, x :: r => G3 x && Uw l (pre ++ [x]) r
theorem S5 (n : Nat) (hn : 1048576 < n) (ty : Nat) (l : List Da) (hlen : l.length ≤ 1048576) (hsl : ∀ x ∈ l, x.fTopic.size ≤ 1048576) : ∀ (r pre : List Da) (m : Nat) (H : Ac), l = pre ++ r → r.length < m → O8 (PR (n + 6) AV) (n + 6) (fun x H => Bc At E0.tp ty H x) m (Al Au l) (.sc (.int .i64 pre.length)) H = some (.sc (.bool (Uw l pre r)))
 | [], pre, m + 1, H, hl, hm => by
  have hlt : decide ((pre.length : Int) < (l.length : Int)) = false := by
   rw [hl]
   simp
  show (PR (n + 6) AV).len _ _ = _
  simp only [De, Cj, Bi, A4, A6, A9, Ep, Er, Ew, Aw, Bx, Ch, Ca, Dx, Cc, Fn, D1, Dj, Bm, Be, Fm, Cy, Eg, E8]
  refine Do ?_
  refine Bf (v := .sc (.bool (decide ((pre.length : Int) < (l.length : Int))))) (fun k => rfl) ?_
  refine Gb hlt ?_
  refine Do ?_
  refine Bf (v := .sc (.bool (decide ((l.length : Int) ≤ 6)))) (fun k => rfl) ?_
  exact Gz (by first | (subst_vars; simp only [Uw]; simp_all; done) | (subst_vars; unfold Uw; simp_all))
 | x :: r, pre, m + 1, H, hl, hm => by
  have hpl : pre.length < l.length := by rw [hl]; simp
  have hlt : decide ((pre.length : Int) < (l.length : Int)) = true := by simpa using hpl
  have hmem : x ∈ l := by rw [hl]; simp
  have hix : IntKind.i64.wrap ((pre.length : Int) + 1) = (((pre ++ [x]).length : Nat) : Int) := by
   rw [Fe _ (by omega) (by omega), List.length_append, List.length_singleton]
   rfl
  try have hs : x.fTopic.size ≤ 1048576 := hsl x (by assumption)
  show (PR (n + 6) AV).len _ _ = _
  simp only [De, Cj, Bi, A4, A6, A9, Ep, Er, Ew, Aw, Bx, Ch, Ca, Dx, Cc, Fn, D1, Dj, Bm, Be, Fm, Cy, Eg, E8]
  refine Do ?_
  refine Bf (v := .sc (.bool (decide ((pre.length : Int) < (l.length : Int))))) (fun k => rfl) ?_
  refine Fo hlt ?_
  refine Jg Eu (by decide) hl ?_
  refine J4 (ds := Au x) (A7 rfl) rfl ?_
  refine F5 rfl (Cl (F7 _ (Hg _)) E6) (R0 (n + 0) (by omega) _ x (by assumption)) ?_
  refine Ii ?_
  refine Ai ((G3 x)) (fun h1 => ?_) (fun h1 => ?_)
  ·refine Gb (nF h1) ?_
   refine Bf (v := .sc (.int .i64 (IntKind.i64.wrap ((pre.length : Int) + 1)))) (fun k => rfl) ?_
   rw [hix]
   refine (S5 n hn ty l hlen hsl r (pre ++ [x]) m _  (by rw [hl]; simp) (by simpa using hm)).trans (congrArg (fun b => some (AV.sc (Value.bool b))) ?_)
   first | (subst_vars; simp only [Uw]; simp_all; done) | (subst_vars; unfold Uw; simp_all)
  ·refine Fo (nT h1) ?_
   exact Gz (by first | (subst_vars; simp only [Uw]; simp_all; done) | (subst_vars; unfold Uw; simp_all))
theorem S2 (n : Nat) (hn : 1048576 < n) (ty : Nat) (l : List Da) (hlen : l.length ≤ 1048576) (hsl : ∀ x ∈ l, x.fTopic.size ≤ 1048576) : Di E0 (n + 7) ty 173 [Al Au l] = some (.sc (.bool (Hu l))) := by
 rw [Bu, Aex, f173]
 have key := S5 n hn ty l hlen hsl l [] (n + 6) [] rfl (by omega)
 rw [Ade G3 (decide ((l.length : Int) ≤ 6)) (Uw l) (fun _ => rfl) (fun _ _ _ => rfl) l []] at key
 exact key
theorem Tt (l : List Da) (b0 : F2 B4 l ≤ 1048576) : l.length ≤ 1048576 ∧ ∀ x ∈ l, x.fTopic.size ≤ 1048576 := by
 have h1 := Jr B4 l
 refine ⟨by omega, fun x hx => ?_⟩
 have h2 := Pb (wt := B4) hx
 have h3 : B4 x = x.fTopic.size + (x.fBody.size + 0) := rfl
 omega
def vSt (x : Ao) : Bool := if x.fM.fQos == 1 then x.fSt == 1 else (x.fM.fQos == 2 && (x.fSt == 2 || x.fSt == 3))
theorem Ag4 (n : Nat) (ty : Nat) (x : Ao) : Di E0 (n + 1) ty 172 [.agg (Az x)] = some (.sc (.bool (vSt x))) := by
 rw [Bu, Afh, f172]
 try simp only [De, Cj, Bi, A4, A6, A9, Ep, Er, Ew, Aw, Bx, Ch, Ca, Dx, Cc, Fn, D1, Dj, Bm, Be, Fm, Cy, Eg, E8]
 refine Qu (Gv _) fun iB1 eB1 B1 => ?_
 refine Ap ?_
 refine Ap ?_
 refine Ce (c := .sc (.int .i64 x.fM.fQos)) B1 (A7 rfl) rfl ?_
 refine Bf (v := .sc (.bool (x.fM.fQos == 1))) (fun k => rfl) ?_
 refine Ai ((x.fM.fQos == 1)) (fun h2 => ?_) (fun h2 => ?_)
 ·refine Fo h2 ?_
  refine Ap ?_
  refine Ce (c := .sc (.int .i64 x.fSt)) B1 (A7 rfl) rfl ?_
  refine Bf (v := .sc (.bool (x.fSt == 1))) (fun k => rfl) ?_
  exact Gz (by subst_vars; unfold vSt; simp_all)
 ·refine Gb h2 ?_
  refine Ap ?_
  refine Ap ?_
  refine Ce (c := .sc (.int .i64 x.fM.fQos)) B1 (A7 rfl) rfl ?_
  refine Bf (v := .sc (.bool (x.fM.fQos == 2))) (fun k => rfl) ?_
  apply B7 ((x.fM.fQos == 2) && ((x.fSt == 2) || (x.fSt == 3)))
  ·intro b3 q3
   refine Ai ((x.fM.fQos == 2)) (fun h3 => ?_) (fun h3 => ?_)
   ·refine Bb h3 ?_
    refine Ap ?_
    refine Bb h3 ?_
    refine Ce (c := .sc (.int .i64 x.fSt)) B1 (A7 rfl) rfl ?_
    refine Bb h3 ?_
    refine Bf (v := .sc (.bool (x.fSt == 2))) (fun k => rfl) ?_
    refine Bb h3 ?_
    apply B7 ((x.fSt == 2) || (x.fSt == 3))
    ·intro b4 q4
     refine Ai ((x.fSt == 2)) (fun h4 => ?_) (fun h4 => ?_)
     ·refine Du h4 ?_
      refine Du h4 ?_
      refine Du h4 ?_
      refine Bb h3 ?_
      refine Dh h4 (mOT q4 h4) ?_
      exact rfl
     ·refine Dm h4 ?_
      refine Ap ?_
      refine Dm h4 ?_
      refine Ce (c := .sc (.int .i64 x.fSt)) B1 (A7 rfl) rfl ?_
      refine Dm h4 ?_
      refine Bf (v := .sc (.bool (x.fSt == 3))) (fun k => rfl) ?_
      refine Bb h3 ?_
      refine Df h4 (mOF q4 h4) ?_
      exact rfl
    intro b4 q4
    refine Dh h3 (by subst q4; exact Ke q3 h3) ?_
    exact rfl
   ·refine Bd h3 ?_
    refine Bd h3 ?_
    refine Bd h3 ?_
    refine Bd h3 ?_
    refine Tz ?_
    refine Tz ?_
    refine Tz ?_
    refine Bd h3 ?_
    refine Df h3 (Ko q3 h3) ?_
    exact rfl
  intro b3 q3
  exact Gz (by subst_vars; unfold vSt; simp_all)
def Nu (pre : List Ao) (x : Ao) : Bool := pre.any fun y => y.fId == x.fId
def Ado : List Ao → List Ao → Bool
 | pre, [] => true
 | pre, x :: r => (K0 x.fId 1 65535 && G3 x.fM && vSt x && !(Nu pre x)) && Ado (pre ++ [x]) r
def Hm (o : B5) : Bool := Ado [] o.fFl && (K0 o.fLast 0 65535 && decide ((o.fFl.length : Int) ≤ 3) && Hu o.fQ)
theorem Xz (o : B5) (b0 : Fi o ≤ 1048576) : (o.fFl.length ≤ 1048576 ∧ ∀ x ∈ o.fFl, x.fM.fTopic.size ≤ 1048576) ∧ (o.fQ.length ≤ 1048576 ∧ ∀ x ∈ o.fQ, x.fTopic.size ≤ 1048576) := by
 have e : Fi o = F2 A0 o.fFl + (F2 B4 o.fQ + 0) := rfl
 refine ⟨?_, Tt _ (by omega)⟩
 have h1 := Jr A0 o.fFl
 refine ⟨by omega, fun x hx => ?_⟩
 have h2 := Pb (wt := A0) hx
 have h3 : A0 x = x.fM.fTopic.size + (x.fM.fBody.size + 0) + 0 := rfl
 omega
theorem Uh (n : Nat) (ty : Nat) (o : B5) (hlen : o.fFl.length ≤ 1048576) (x : Ao) (g0 : AV → AV → Ac → Option AV) (kk : AV → Ac → Option AV) (i1 : Nat) (H : Ac) (B : H[i1]? = some ⟨Bg o, true, true⟩) (pre r : List Ao) (hl : o.fFl = pre ++ x :: r) : ∀ (s p2 : List Ao) (m : Nat), pre = p2 ++ s → s.length < m →
  Ob (PR n AV) n g0 kk m (.ptr i1 0) (.sc (.int .i64 pre.length)) (.sc (.int .i64 p2.length)) H = if Nu s x then kk (.sc (.bool false)) H else g0 (.ptr i1 0) (.sc (.int .i64 (IntKind.i64.wrap ((pre.length : Int) + 1)))) H
 | [], p2, m + 1, he, hm => by
  rw [List.append_nil] at he
  subst he
  show (PR n AV).bin _ _ _ _ = _
  simp only [A9, Aw, Bi, A4, Cc]
  rw [D2, D8, if_neg (by simp)]
  rfl
 | y :: s, p2, m + 1, he, hm => by
  have hlt : p2.length < pre.length := by rw [he]; simp
  have hpl : pre.length < o.fFl.length := by rw [hl]; simp
  show (PR n AV).bin _ _ _ _ = _
  simp only [A9, Aw, Bi, A4, Cc]
  rw [D2, D8, if_pos (by simpa using hlt)]
  refine Ap ?_
  refine Ce (c := Al Az o.fFl) B (A7 rfl) rfl ?_
  refine Jg (pre := p2) (x := y) (t := s ++ x :: r) Br (by decide) (by rw [hl, he]; simp) ?_
  refine Ht ?_
  refine Jd (c := .sc (.int .i64 y.fId)) rfl ?_
  refine Ap ?_
  refine Ce (c := Al Az o.fFl) B (A7 rfl) rfl ?_
  refine Jg (pre := pre) (x := x) (t := r) Br (by decide) hl ?_
  refine Ht ?_
  refine Jd (c := .sc (.int .i64 x.fId)) rfl ?_
  refine Bf (v := .sc (.bool (y.fId == x.fId))) (fun k => rfl) ?_
  have ih := Uh n ty o hlen x g0 kk i1 H B pre r hl s (p2 ++ [y]) m (by rw [he]; simp) (by simpa using hm)
  rw [List.length_append, List.length_singleton] at ih
  have hany : Nu (y :: s) x = (y.fId == x.fId || Nu s x) := rfl
  rw [hany]
  cases hid : (y.fId == x.fId)
  ·refine Gb rfl ?_
   rw [Ey _ _ (by omega), ih]
   rfl
  ·exact Fo rfl rfl
def Vl (o : B5) : List Ao → List Ao → Bool
 | pre, [] => K0 o.fLast 0 65535 && decide ((o.fFl.length : Int) ≤ 3) && Hu o.fQ
 | pre, x :: r => (K0 x.fId 1 65535 && G3 x.fM && vSt x && !(Nu pre x)) && Vl o (pre ++ [x]) r
theorem Qr (n : Nat) (hn : 1048576 < n) (ty : Nat) (o : B5) (hlen : o.fFl.length ≤ 1048576) (hsl : ∀ x ∈ o.fFl, x.fM.fTopic.size ≤ 1048576) (hqn : o.fQ.length ≤ 1048576) (hqs : ∀ x ∈ o.fQ, x.fTopic.size ≤ 1048576) (i1 : Nat) : ∀ (r pre : List Ao) (m : Nat) (H : Ac) (B : H[i1]? = some ⟨Bg o, true, true⟩), o.fFl = pre ++ r → r.length < m → Mc (PR (n + 8) AV) (n + 8) (fun x H => Bc At E0.tp ty H x) m (.ptr i1 0) (.sc (.int .i64 pre.length)) H = some (.sc (.bool (Vl o pre r)))
 | [], pre, m + 1, H, B, hl, hm => by
  have hlt : decide ((pre.length : Int) < (o.fFl.length : Int)) = false := by
   rw [hl]
   simp
  show (PR (n + 8) AV).fadr _ _ _ = _
  simp only [De, Cj, Bi, A4, A6, A9, Ep, Er, Ew, Aw, Bx, Ch, Ca, Dx, Cc, Fn, D1, Dj, Bm, Be, Fm, Cy, Eg, E8]
  refine Ap ?_
  refine Ce (c := Al Az o.fFl) B (A7 rfl) rfl ?_
  refine Do ?_
  refine Bf (v := .sc (.bool (decide ((pre.length : Int) < (o.fFl.length : Int))))) (fun k => rfl) ?_
  refine Gb hlt ?_
  refine Ap ?_
  refine Ce (c := .sc (.int .i64 o.fLast)) B (A7 rfl) rfl ?_
  refine F5 rfl (Cl (Ed _ _) (Cl (Ed _ _) (Cl (Ed _ _) E6))) (Mw (n + 7) _ o.fLast 0 65535) ?_
  apply B7 ((K0 o.fLast 0 65535) && (decide ((o.fFl.length : Int) ≤ 3)))
  ·intro b1 q1
   refine Ai ((K0 o.fLast 0 65535)) (fun h1 => ?_) (fun h1 => ?_)
   ·refine Bb h1 ?_
    refine Ap ?_
    refine Bb h1 ?_
    refine Ce (c := Al Az o.fFl) B (A7 rfl) rfl ?_
    refine Bb h1 ?_
    refine Do ?_
    refine Bb h1 ?_
    refine Bf (v := .sc (.bool (decide ((o.fFl.length : Int) ≤ 3)))) (fun k => rfl) ?_
    refine Dh h1 (Ke q1 h1) ?_
    exact rfl
   ·refine Bd h1 ?_
    refine Bd h1 ?_
    refine Bd h1 ?_
    refine Bd h1 ?_
    refine Df h1 (Ko q1 h1) ?_
    exact rfl
  intro b1 q1
  apply B7 (b1 && (Hu o.fQ))
  ·intro b2 q2
   refine Ai (b1) (fun h2 => ?_) (fun h2 => ?_)
   ·refine Bb h2 ?_
    refine Ap ?_
    refine Bb h2 ?_
    refine Ce (c := Al Au o.fQ) B (A7 rfl) rfl ?_
    refine Bb h2 ?_
    refine F5 rfl (Cl (Ik _ _ _) E6) (S2 (n + 1) (by omega) _ o.fQ (by assumption) (by assumption)) ?_
    refine Dh h2 (Ke q2 h2) ?_
    exact rfl
   ·refine Bd h2 ?_
    refine Bd h2 ?_
    refine Bd h2 ?_
    refine Df h2 (Ko q2 h2) ?_
    exact rfl
  intro b2 q2
  exact Gz (by (try clear ih); (try clear hlt); (try clear hix); (try clear hm); (try clear hmem); (try clear hpl); (try clear hsl); (try clear hlen); (try clear hqn); (try clear hqs); (try clear hs); (try clear B); (try clear B1); (try clear B2); (try clear hl); subst_vars; rw [Vl]; first | done | (cases h1 : K0 x.fId 1 65535 <;> cases h2 : G3 x.fM <;> cases h3 : vSt x <;> cases h4 : Nu pre x <;> simp [h1, h2, h3, h4] at *))
 | x :: r, pre, m + 1, H, B, hl, hm => by
  have hpl : pre.length < o.fFl.length := by rw [hl]; simp
  have hlt : decide ((pre.length : Int) < (o.fFl.length : Int)) = true := by simpa using hpl
  have hmem : x ∈ o.fFl := by rw [hl]; simp
  have hix : IntKind.i64.wrap ((pre.length : Int) + 1) = (((pre ++ [x]).length : Nat) : Int) := by
   rw [Fe _ (by omega) (by omega), List.length_append, List.length_singleton]
   rfl
  try have hs : x.fM.fTopic.size ≤ 1048576 := hsl x (by assumption)
  show (PR (n + 8) AV).fadr _ _ _ = _
  simp only [De, Cj, Bi, A4, A6, A9, Ep, Er, Ew, Aw, Bx, Ch, Ca, Dx, Cc, Fn, D1, Dj, Bm, Be, Fm, Cy, Eg, E8]
  refine Ap ?_
  refine Ce (c := Al Az o.fFl) B (A7 rfl) rfl ?_
  refine Do ?_
  refine Bf (v := .sc (.bool (decide ((pre.length : Int) < (o.fFl.length : Int))))) (fun k => rfl) ?_
  refine Fo hlt ?_
  refine Ap ?_
  refine Ce (c := Al Az o.fFl) B (A7 rfl) rfl ?_
  refine Jg Br (by decide) hl ?_
  refine Ht ?_
  refine Jd (c := .sc (.int .i64 x.fId)) rfl ?_
  refine F5 rfl (Cl (Ed _ _) (Cl (Ed _ _) (Cl (Ed _ _) E6))) (Mw (n + 7) _ x.fId 1 65535) ?_
  refine Ii ?_
  apply B7 ((!(K0 x.fId 1 65535)) || (!(G3 x.fM)))
  ·intro b1 q1
   refine Ai ((K0 x.fId 1 65535)) (fun h1 => ?_) (fun h1 => ?_)
   ·refine Dm (nF h1) ?_
    refine Ap ?_
    refine Dm (nF h1) ?_
    refine Ce (c := Al Az o.fFl) B (A7 rfl) rfl ?_
    refine Dm (nF h1) ?_
    refine Dm (nF h1) ?_
    refine Jg Br (by decide) hl ?_
    refine Dm (nF h1) ?_
    refine Ht ?_
    refine Dm (nF h1) ?_
    refine J4 (ds := Au x.fM) (A7 rfl) rfl ?_
    refine Dm (nF h1) ?_
    refine F5 rfl (Cl (F7 _ (Hg _)) E6) (R0 (n + 2) (by omega) _ x.fM (by assumption)) ?_
    refine Dm (nF h1) ?_
    refine Ii ?_
    refine Df (nF h1) (mOF q1 (nF h1)) ?_
    exact rfl
   ·refine Du (nT h1) ?_
    refine Du (nT h1) ?_
    refine Du (nT h1) ?_
    refine Du (nT h1) ?_
    refine Du (nT h1) ?_
    refine Du (nT h1) ?_
    refine Du (nT h1) ?_
    refine Du (nT h1) ?_
    refine Dh (nT h1) (mOT q1 (nT h1)) ?_
    exact rfl
  intro b1 q1
  apply B7 (b1 || (!(vSt x)))
  ·intro b2 q2
   refine Ai (b1) (fun h2 => ?_) (fun h2 => ?_)
   ·refine Du h2 ?_
    refine Du h2 ?_
    refine Du h2 ?_
    refine Du h2 ?_
    refine Du h2 ?_
    refine Du h2 ?_
    refine Du h2 ?_
    refine Dh h2 (mOT q2 h2) ?_
    exact rfl
   ·refine Dm h2 ?_
    refine Ap ?_
    refine Dm h2 ?_
    refine Ce (c := Al Az o.fFl) B (A7 rfl) rfl ?_
    refine Dm h2 ?_
    refine Dm h2 ?_
    refine Jg Br (by decide) hl ?_
    refine Dm h2 ?_
    refine J4 (ds := Az x) (A7 rfl) rfl ?_
    refine Dm h2 ?_
    refine F5 rfl (Cl (F7 _ (Gv _)) E6) (Ag4 (n + 7) _ x) ?_
    refine Dm h2 ?_
    refine Ii ?_
    refine Df h2 (mOF q2 h2) ?_
    exact rfl
  intro b2 q2
  refine Ai (b2) (fun h3 => ?_) (fun h3 => ?_)
  ·refine Fo h3 ?_
   exact Gz (by (try clear ih); (try clear hlt); (try clear hix); (try clear hm); (try clear hmem); (try clear hpl); (try clear hsl); (try clear hlen); (try clear hqn); (try clear hqs); (try clear hs); (try clear B); (try clear B1); (try clear B2); (try clear hl); subst_vars; rw [Vl]; first | done | (cases h1 : K0 x.fId 1 65535 <;> cases h2 : G3 x.fM <;> cases h3 : vSt x <;> cases h4 : Nu pre x <;> simp [h1, h2, h3, h4] at *))
  ·refine Gb h3 ?_
   have key := fun g0 kk => Uh (n + 8) ty o hlen x g0 kk i1 H B pre r hl pre [] (n + 8) rfl (by omega)
   simp only [List.length_nil, Int.natCast_zero] at key
   rw [key]
   clear key
   cases hpre : Nu pre x
   ·simp only [Bool.false_eq_true, if_false]
    rw [hix]
    refine (Qr n hn ty o hlen hsl hqn hqs i1 r (pre ++ [x]) m _ B (by rw [hl]; simp) (by simpa using hm)).trans (congrArg (fun b => some (AV.sc (Value.bool b))) ?_)
    (try clear ih); (try clear hlt); (try clear hix); (try clear hm); (try clear hmem); (try clear hpl); (try clear hsl); (try clear hlen); (try clear hqn); (try clear hqs); (try clear hs); (try clear B); (try clear B1); (try clear B2); (try clear hl); subst_vars; rw [Vl]; first | done | (cases h1 : K0 x.fId 1 65535 <;> cases h2 : G3 x.fM <;> cases h3 : vSt x <;> cases h4 : Nu pre x <;> simp [h1, h2, h3, h4] at *)
   ·simp only [if_true]
    exact Gz (by (try clear ih); (try clear hlt); (try clear hix); (try clear hm); (try clear hmem); (try clear hpl); (try clear hsl); (try clear hlen); (try clear hqn); (try clear hqs); (try clear hs); (try clear B); (try clear B1); (try clear B2); (try clear hl); subst_vars; rw [Vl]; first | done | (cases h1 : K0 x.fId 1 65535 <;> cases h2 : G3 x.fM <;> cases h3 : vSt x <;> cases h4 : Nu pre x <;> simp [h1, h2, h3, h4] at *))
theorem Z8 (o : B5) : ∀ (r pre : List Ao), Vl o pre r = (Ado pre r && (K0 o.fLast 0 65535 && decide ((o.fFl.length : Int) ≤ 3) && Hu o.fQ))
 | [], pre => by rw [Vl, Ado, Bool.true_and]
 | x :: r, pre => by
  rw [Vl, Ado, Z8 o r]
  simp only [Bool.and_assoc]
def W6 : Da := ⟨⟨#[]⟩, ⟨#[]⟩, 0, false⟩
theorem Af4 {α β : Type} {r : Option β} {w : Nat} {enc : α → List AV} {l : List α} {d : α} {K : AV → Option β} (hw : ∀ x, (enc x).length = w) (h0 : 0 < w) (hl : 0 < l.length) (h : K (.rp (enc (l.headD d) ++ (l.tail.map enc).flatten)) = r) : E7 w (Al enc l) (.sc (.int .i64 0)) (fun t => K t) = r := by
 refine AeH hw h0 hl fun x t e => ?_
 subst e
 exact h
theorem O7 (n : Nat) (hn : 1048576 < n) (ty : Nat) (o : B5) (b0 : Fi o ≤ 1048576) : Di E0 (n + 10) ty 155 [.agg (Bg o)] = some (.sc (.bool (Hm o))) := by
 obtain ⟨⟨h1, h2⟩, h3, h4⟩ := Xz o b0
 rw [Bu, AeR, f155]
 simp only [De]
 refine Qu (H5 _) fun i e hi => ?_
 have key := Qr (n + 1) (by omega) ty o h1 h2 h3 h4 i o.fFl [] (n + 9) _ hi rfl (by omega)
 rw [Z8] at key
 exact key
theorem Rq (n : Nat) (hn : 1048576 < n) (o : B5) (k0 : Rj o) (b0 : Fi o ≤ 1048576) : Di E0 (n + 11) 4 160 [.agg (Bg o)] = some (.sc (.bool ((Hm o && decide ((o.fQ.length : Int) > 0)) && ((o.fQ.headD W6).fQos == 0 || decide ((o.fFl.length : Int) < 3))))) := by
 rw [Bu, AeL, f160]
 try simp only [De, Cj, Bi, A4, A6, A9, Ep, Er, Ew, Aw, Bx, Ch, Ca, Dx, Cc, Fn, D1, Dj, Bm, Be, Fm, Cy, Eg, E8]
 have hwo := b0
 refine Qu (H5 _) fun iB1 eB1 B1 => ?_
 refine F0 (ds := Bg o) B1 (A7 rfl) rfl ?_
 refine F5 rfl (Cl (F7 _ (H5 _)) E6) (O7 (n + 0) (by omega) _ o hwo) ?_
 apply B7 ((Hm o) && (decide ((o.fQ.length : Int) > 0)))
 ·intro b2 q2
  refine Ai ((Hm o)) (fun h2 => ?_) (fun h2 => ?_)
  ·refine Bb h2 ?_
   refine Ap ?_
   refine Bb h2 ?_
   refine Ce (c := Al Au o.fQ) B1 (A7 rfl) rfl ?_
   refine Bb h2 ?_
   refine Do ?_
   refine Bb h2 ?_
   refine Bf (v := .sc (.bool (decide ((o.fQ.length : Int) > 0)))) (fun k => rfl) ?_
   refine Dh h2 (Ke q2 h2) ?_
   exact rfl
  ·refine Bd h2 ?_
   refine Bd h2 ?_
   refine Bd h2 ?_
   refine Bd h2 ?_
   refine Df h2 (Ko q2 h2) ?_
   exact rfl
 intro b2 q2
 apply B7 (b2 && ((((o.fQ.headD W6).fQos) == 0) || (decide ((o.fFl.length : Int) < 3))))
 ·intro b3 q3
  refine Ai (b2) (fun h3 => ?_) (fun h3 => ?_)
  ·refine Bb h3 ?_
   refine Ap ?_
   refine Bb h3 ?_
   refine Ce (c := Al Au o.fQ) B1 (A7 rfl) rfl ?_
   refine Bb h3 ?_
   refine Af4 (d := W6) Eu (by decide) (by first | (simp_all; done) | (simp at *; omega)) ?_
   refine Bb h3 ?_
   refine Ht ?_
   refine Bb h3 ?_
   refine Jd (c := .sc (.int .i64 ((o.fQ.headD W6).fQos))) rfl ?_
   refine Bb h3 ?_
   refine Bf (v := .sc (.bool (((o.fQ.headD W6).fQos) == 0))) (fun k => rfl) ?_
   refine Bb h3 ?_
   apply B7 ((((o.fQ.headD W6).fQos) == 0) || (decide ((o.fFl.length : Int) < 3)))
   ·intro b4 q4
    refine Ai ((((o.fQ.headD W6).fQos) == 0)) (fun h4 => ?_) (fun h4 => ?_)
    ·refine Du h4 ?_
     refine Du h4 ?_
     refine Du h4 ?_
     refine Du h4 ?_
     refine Bb h3 ?_
     refine Dh h4 (mOT q4 h4) ?_
     exact rfl
    ·refine Dm h4 ?_
     refine Ap ?_
     refine Dm h4 ?_
     refine Ce (c := Al Az o.fFl) B1 (A7 rfl) rfl ?_
     refine Dm h4 ?_
     refine Do ?_
     refine Dm h4 ?_
     refine Bf (v := .sc (.bool (decide ((o.fFl.length : Int) < 3)))) (fun k => rfl) ?_
     refine Bb h3 ?_
     refine Df h4 (mOF q4 h4) ?_
     exact rfl
   intro b4 q4
   refine Dh h3 (by subst q4; exact Ke q3 h3) ?_
   exact rfl
  ·refine Bd h3 ?_
   refine Bd h3 ?_
   refine Bd h3 ?_
   refine Bd h3 ?_
   refine Bd h3 ?_
   refine Bd h3 ?_
   refine Bd h3 ?_
   refine Tz ?_
   refine Tz ?_
   refine Tz ?_
   refine Tz ?_
   refine Bd h3 ?_
   refine Df h3 (Ko q3 h3) ?_
   exact rfl
 intro b3 q3
 exact Gz (by subst_vars; rfl)
end
section
open Go
variable {β : Type} {n : Nat} {r : Option β}
theorem Ui (s : ByteArray) (hs : s.size ≤ 140737488355328) (H : Ac) (K : KO β) : Hh 1 1 .nl (Bj s) H K = K (.sl H.length 0 s.size 1) (H ++ [⟨Bh s, true, true⟩]) := by
 have e1 : C5 H 1 (Bj s) = some (Bh s) := by
  show (if (Bh s).length = s.size * 1 then some (Bh s) else none) = _
  rw [if_pos (by rw [Ef]; omega)]
 have e2 : C5 H 1 .nl = some [] := rfl
 have e3 : G2 (Bj s) = some s.size := rfl
 simp only [Hh, G2, e1, e2, Mn, Option.bind_some, e3]
 rw [if_pos (by omega), if_pos (Us s)]
 simp only [Fj, Nat.zero_add, List.nil_append]
theorem Tx {H : Ac} {id d : Nat} {s : ByteArray} (h : H[id]? = some ⟨Bh s, true, true⟩) : B6 At E0.tp H (d + 2) 22 (.sl id 0 s.size 1) = some (Bj s, [id]) := by
 rw [Fz]
 have ha : Fx H id = true := by simp only [Fx, h]
 have hr : Ba H id 0 (s.size * 1) = some (Bh s) := by
  have hl := Ef s
  simp only [Ba, h, if_true, Nat.zero_add, Nat.mul_one, hl, Nat.le_refl, List.drop_zero]
  rw [← hl, List.take_length]
 obtain ⟨i, j, h1, h2, h3, h4⟩ := Nk
 simp only [h1, h2, Option.bind_some, h3, if_true, ha, hr]
 have ho := U8 (ti := At) (tp := E0.tp) (H := H) (d := d) (List.replicate s.size j.cty).flatten (bv s) (by rw [Ahr]; simp [h4])
 rw [Jv, ho, Option.bind_some, ← Jv]
theorem AdI (n : Nat) (hn : 1 < n) (s : ByteArray) (hs : s.size ≤ 1048576) : Di E0 (n + 1) 22 167 [.ro 1 [Bj s]] = some (Bj s) := by
 rw [Bu, Aeg, f167]
 simp only [Ca]
 refine Do ?_
 obtain ⟨m, rfl⟩ : ∃ m, n = m + 2 := ⟨n - 2, by omega⟩
 rw [Nd]
 simp only [A9, Aw, Cc, A4, Cy]
 refine Bf (v := .sc (.bool true)) (fun k => rfl) ?_
 refine Fo rfl ?_
 have e1 : ∀ K : AV → Option AV, E7 1 (.ro 1 [Bj s]) (.sc (.int .i64 0)) K = K (.rp [Bj s]) := fun K => Oo 1 1 [Bj s] 0 K (by decide) (by simp)
 rw [e1, Nz, Ui s (by omega)]
 refine Bf (v := .sc (.int .i64 1)) (fun k => rfl) ?_
 rw [Nd]
 simp only [A9, Aw]
 refine Bf (v := .sc (.bool false)) (fun k => rfl) ?_
 refine Gb rfl ?_
 rw [Bc, Tx (d := 6) (s := s) rfl]
 rfl
theorem Aeb {H : Ac} {id d : Nat} {m : Da} (h : H[id]? = some ⟨Bh m.fBody, true, true⟩) : Cm (B6 At E0.tp H (d + 2)) Hf [.sc (.string m.fTopic), .sl id 0 m.fBody.size 1, .sc (.int .i64 m.fQos), .sc (.bool m.fRetain)] = some (Au m, [id]) := by
 have hb := Tx (d := d) h
 simp only [Hf, Cm, Gt, hb, Option.bind_some, List.nil_append, List.append_nil]
 rfl
theorem Sq {H : Ac} {id : Nat} {m : Da} (h : H[id]? = some ⟨Bh m.fBody, true, true⟩) : Bc At E0.tp 73 H (.agg [.sc (.string m.fTopic), .sl id 0 m.fBody.size 1, .sc (.int .i64 m.fQos), .sc (.bool m.fRetain)]) = some (.agg (Au m)) := by
 obtain ⟨i, hi, hc⟩ := Pf
 rw [Bc, D4, hi, Option.bind_some, hc, Aeb (d := 5) h]
 rfl
end
section
open Go
variable {β : Type} {n : Nat} {r : Option β}
theorem Q7 (n : Nat) (m : Da) (hs : m.fBody.size ≤ 1048576) : Di E0 (n + 1) 73 175 [.agg (Au m)] = some (.agg (Au m)) := by
 rw [Bu, Af6, f175]
 simp only [De, Cj, Bi, A4, Cy, Be, A6, Ie]
 rw [I5 _ _ _ (Hg m)]
 simp only [List.length_nil, List.nil_append, List.length_cons, Nat.zero_add]
 have hH : ([⟨Au m, true, true⟩] ++ [⟨Hs, true, true⟩] : Ac)[0]? = some ⟨Au m, true, true⟩ := rfl
 refine Ap ?_
 refine Ce (c := .sc (.string m.fTopic)) hH (A7 rfl) rfl ?_
 refine Ap ?_
 refine Ce (c := Bj m.fBody) hH (A7 rfl) rfl ?_
 refine Ap ?_
 refine Ce (c := .sc (.int .i64 m.fQos)) hH (A7 rfl) rfl ?_
 refine Ap ?_
 refine Ce (c := .sc (.bool m.fRetain)) hH (A7 rfl) rfl ?_
 rw [Ui _ (by omega)]
 refine Lr (cs := [.sc (.string m.fTopic), .sl 2 0 m.fBody.size 1, .sc (.int .i64 m.fQos), .sc (.bool m.fRetain)]) rfl ?_
 rw [En 4 1 0 _ ⟨Hs, true, true⟩ [.sc (.string m.fTopic), .sl 2 0 m.fBody.size 1, .sc (.int .i64 m.fQos), .sc (.bool m.fRetain)] _ _ rfl rfl rfl (by decide) rfl]
 refine F0 (ds := [.sc (.string m.fTopic), .sl 2 0 m.fBody.size 1, .sc (.int .i64 m.fQos), .sc (.bool m.fRetain)]) (cs := [.sc (.string m.fTopic), .sl 2 0 m.fBody.size 1, .sc (.int .i64 m.fQos), .sc (.bool m.fRetain)]) rfl (Nat.le_refl _) rfl ?_
 exact Sq rfl
theorem V4 (n : Nat) (hn : 1 < n) (m : Da) (hs : m.fBody.size ≤ 1048576) : Di E0 (n + 2) 73 147 [.agg (Au m)] = some (.agg (Au m)) := by
 rw [Bu, AfA, f147]
 simp only [De, Cj, Bi, A4, Cy, Be, A6, Bm, Ie]
 rw [I5 _ _ _ (Hg m)]
 simp only [List.length_nil, List.nil_append, List.length_cons, Nat.zero_add]
 have hH : ([⟨Au m, true, true⟩] ++ [⟨Hs, true, true⟩] : Ac)[0]? = some ⟨Au m, true, true⟩ := rfl
 refine Ap ?_
 refine Ce (c := Bj m.fBody) hH (A7 rfl) rfl ?_
 refine Lr (cs := [Bj m.fBody]) rfl ?_
 simp only [Fj]
 rw [El (vs := [.ro 1 [Bj m.fBody]]) rfl rfl (AdI n hn m.fBody hs)]
 obtain ⟨i, j, h1, h2, h3, h4⟩ := Nk
 have hi : ∀ N, Bo At E0.tp N 22 (Bj m.fBody) = (.sl N 0 m.fBody.size 1, [⟨Bh m.fBody, true, true⟩]) := by
  intro N
  show Bo At E0.tp N 22 (.ro m.fBody.size (Bh m.fBody)) = _
  simp only [Bo, h1, Option.bind_some, h2, Option.getD_some, h3, Jv, Pj]
 rw [hi]
 simp only
 refine Ap ?_
 rw [En 1 0 (0 + 1) _ ⟨Au m, true, true⟩ [.sl 3 0 m.fBody.size 1] _ _ rfl rfl rfl (A7 rfl) rfl]
 refine F0 (ds := [.sc (.string m.fTopic), .sl 3 0 m.fBody.size 1, .sc (.int .i64 m.fQos), .sc (.bool m.fRetain)]) (cs := [.sc (.string m.fTopic), .sl 3 0 m.fBody.size 1, .sc (.int .i64 m.fQos), .sc (.bool m.fRetain)]) rfl (Nat.le_refl _) rfl ?_
 rw [En 4 1 0 _ ⟨Hs, true, true⟩ [.sc (.string m.fTopic), .sl 3 0 m.fBody.size 1, .sc (.int .i64 m.fQos), .sc (.bool m.fRetain)] _ _ rfl rfl rfl (by decide) rfl]
 refine F0 (ds := [.sc (.string m.fTopic), .sl 3 0 m.fBody.size 1, .sc (.int .i64 m.fQos), .sc (.bool m.fRetain)]) (cs := [.sc (.string m.fTopic), .sl 3 0 m.fBody.size 1, .sc (.int .i64 m.fQos), .sc (.bool m.fRetain)]) rfl (Nat.le_refl _) rfl ?_
 exact Sq rfl
theorem P3 {d w te g bytes k : Nat} {cty : List Nat} {H X0 : Ac} {x : AV} {cells cs z : List AV} {args vs : List AV} {K : KO β} (hx : OwnS d H w cty x k cells) (hh : F4 g = false) (hv : args.mapM (Ds (H ++ X0) 8) = some vs) (ht : Di E0 n te g vs = some (.agg cs))
  (hte : ∃ i, At te = some i ∧ i.cty = cty) (hok : Eh (Gx At E0.tp d) cty cs) (hfl : cs.all Ix = true) (hw : cs.length = w) (hz : z.length = w) (hb : (k + 1) * bytes ≤ 140737488355328) (h : ∀ x' H', OwnS d H' w cty x' (k + 1) (cells ++ cs) → K x' H' = r) :
  ((PR n β).call te (.fn g [] []) args (H ++ X0) fun t G => (Ev z [(0, w, t)]).bind fun ct => Fj 1 w ct true G fun y G => Hh w bytes x y G K) = r := by
 obtain ⟨i, hi, rfl⟩ := hte
 rw [El hh hv ht, Fq, hi, Option.getD_some]
 simp only
 have hlen := In (ti := At) (tp := E0.tp) (H ++ X0).length i.cty cs
 have hleaf := Iq (ti := At) (tp := E0.tp) cs (H ++ X0).length i.cty hfl
 have hf : Ev z [(0, w, .agg (Bw At E0.tp (H ++ X0).length i.cty cs).1)] = some (Bw At E0.tp (H ++ X0).length i.cty cs).1 := by
  have hc : Cx (.agg (Bw At E0.tp (H ++ X0).length i.cty cs).1) = some (Bw At E0.tp (H ++ X0).length i.cty cs).1 := by
   show (if _ then _ else none) = _
   rw [if_pos hleaf]
  have hs : Cg z 0 (Bw At E0.tp (H ++ X0).length i.cty cs).1 = (Bw At E0.tp (H ++ X0).length i.cty cs).1 := by
   unfold Cg
   rw [List.take_zero, List.nil_append, List.drop_of_length_le (by rw [hlen, hw, hz]; omega), List.append_nil]
  show ((Cx (.agg _)).bind fun cs => if cs.length = w then (if 0 + w ≤ z.length then Ev (Cg z 0 cs) [] else none) else none) = _
  rw [hc, Option.bind_some, if_pos (by rw [hlen, hw]), if_pos (by omega), hs]
  rfl
 rw [hf, Option.bind_some]
 have key := Aaa (H := H) (X := X0 ++ (Bw At E0.tp (H ++ X0).length i.cty cs).2) (bytes := bytes) (er := (Bw At E0.tp (H ++ X0).length i.cty cs).1) (ec := cs) (eids := List.range' (H ++ X0).length (Bw At E0.tp (H ++ X0).length i.cty cs).2.length) (K := K) (r := r) hx (by rw [hlen, hw]) hleaf (by
   have := Vm (d := d) (H := H ++ X0) hok
   rwa [List.append_assoc] at this) List.nodup_range' (fun j hj => by
   rw [List.mem_range'_1] at hj
   have := hj.1
   simp at this
   omega) hb h
 rw [← List.append_assoc] at key
 exact key
theorem Xi (n : Nat) (hn : 1048576 < n) (l : List Da) (hl : l.length ≤ 1048576) (hs : ∀ x ∈ l, x.fBody.size ≤ 1048576) : ∀ (t pre : List Da) (m : Nat) (x : AV) (H : Ac), l = pre ++ t → t.length < m → OwnS 7 H 4 Hf x pre.length (pre.map Au).flatten →
  Mb (PR (n + 2) AV) (n + 2) (fun x H => Bc At E0.tp 79 H x) m (Al Au l) x (.sc (.int .i64 pre.length)) H = some (Al Au l)
 | [], pre, m + 1, x, H, he, hm, hx => by
  rw [List.append_nil] at he
  subst he
  rw [Mb]
  simp only [Ca, A9, Aw]
  rw [Adj, D2, D8, if_neg (by simp)]
  obtain ⟨ids, ho, hno⟩ := Rc (d := 7) (tyS := 79) Ku hx
  rw [Bc, ho, Option.bind_some, if_pos hno]
 | y :: t, pre, m + 1, x, H, he, hm, hx => by
  have hlt : pre.length < l.length := by rw [he]; simp
  have hy : y ∈ l := by rw [he]; simp
  rw [Mb]
  simp only [Ca, A9, Aw, Cc, A4, Be, Bm, Cy]
  rw [Adj, D2, D8, if_pos (by simpa using hlt)]
  have hel := fun k => Oy (β := AV) Eu (by decide) pre y t k
  rw [← he] at hel
  rw [hel, Xf 4 _ _ _ _ (Eu y)]
  have hst := fun K h => P3 (β := AV) (n := n + 2) (X0 := []) (bytes := 56) (z := Hs) (K := K) (r := some (Al Au l)) hx rfl (Cl (F7 _ (Hg y)) E6) (Q7 (n + 1) y (hs y hy)) Pf (H7 5 y) (Hg y) (Eu y) rfl (by omega) h
  simp only [List.append_nil] at hst
  refine hst _ fun x' H' hx' => ?_
  rw [Ey _ _ (by omega)]
  have ih := Xi n hn l hl hs t (pre ++ [y]) m x' H' (by rw [he]; simp) (by simpa using hm) (by
   rw [List.length_append, List.length_singleton, List.map_append, List.flatten_append]
   simpa using hx')
  rw [List.length_append, List.length_singleton] at ih
  exact ih
theorem Oq (n : Nat) (hn : 1048576 < n) (l : List Da) (hl : l.length ≤ 1048576) (hs : ∀ x ∈ l, x.fBody.size ≤ 1048576) : Di E0 (n + 3) 79 174 [Al Au l] = some (Al Au l) := by
 rw [Bu, Afj, f174]
 exact Xi n hn l hl hs l [] (n + 2) .nl [] rfl (by omega) (OwnS.nil _ _ _ _)
theorem Ns (n : Nat) (hn : 1048576 < n) (l : List Da) (hl : l.length ≤ 1048576) (hs : ∀ x ∈ l, x.fBody.size ≤ 1048576) : ∀ (t pre : List Da) (m : Nat) (x : AV) (H : Ac), l = pre ++ t → t.length < m → OwnS 7 H 4 Hf x pre.length (pre.map Au).flatten →
  Lk (PR (n + 2) AV) (n + 2) (fun x H => Bc At E0.tp 79 H x) m x (Al Au l) (.sc (.int .i64 l.length)) (.sc (.int .i64 pre.length)) H = some (Al Au l)
 | [], pre, m + 1, x, H, he, hm, hx => by
  rw [List.append_nil] at he
  subst he
  rw [Lk]
  simp only [Ca, A9, Aw]
  rw [D2, D8, if_neg (by simp)]
  obtain ⟨ids, ho, hno⟩ := Rc (d := 7) (tyS := 79) Ku hx
  rw [Bc, ho, Option.bind_some, if_pos hno]
 | y :: t, pre, m + 1, x, H, he, hm, hx => by
  have hlt : pre.length < l.length := by rw [he]; simp
  have hy : y ∈ l := by rw [he]; simp
  rw [Lk]
  simp only [Ca, A9, Aw, Cc, A4, Be, Bm, Cy, Cj, A6]
  rw [D2, D8, if_pos (by simpa using hlt)]
  have hel := fun k => Oy (β := AV) Eu (by decide) pre y t k
  rw [← he] at hel
  rw [hel, Xf 4 _ _ _ _ (Eu y)]
  refine Zi rfl (Eu _) (Q8 (Hg _)) fun i hi => ?_
  refine T6 hi (Eu _) ?_
  refine P3 (β := AV) (n := n + 2) (X0 := [⟨Au y, true, true⟩]) (bytes := 56) (z := Hs) (r := some (Al Au l)) hx rfl (Cl (F7 _ (Hg y)) E6) (V4 n (by omega) y (hs y hy)) Pf (H7 5 y) (Hg y) (Eu y) rfl (by omega) fun x' H' hx' => ?_
  rw [Ey _ _ (by omega)]
  have ih := Ns n hn l hl hs t (pre ++ [y]) m x' H' (by rw [he]; simp) (by simpa using hm) (by
   rw [List.length_append, List.length_singleton, List.map_append, List.flatten_append]
   simpa using hx')
  rw [List.length_append, List.length_singleton] at ih
  exact ih
theorem Tq (n : Nat) (hn : 1048576 < n) (l : List Da) (hl : l.length ≤ 1048576) (hs : ∀ x ∈ l, x.fBody.size ≤ 1048576) : Di E0 (n + 3) 79 146 [Al Au l] = some (Al Au l) := by
 rw [Bu, Afi, f146]
 simp only [Ca]
 refine Do ?_
 exact Ns n hn l hl hs l [] (n + 2) .nl [] rfl (by omega) (OwnS.nil _ _ _ _)
end
section
open Go
def OwnSI (d : Nat) (H : Ac) (w : Nat) (cty : List Nat) (x : AV) (k : Nat) (cells : List AV) (ids : List Nat) : Prop :=
 (x = .nl ∧ k = 0 ∧ cells = [] ∧ ids = []) ∨ ∃ id raw is, ids = id :: is ∧ x = .sl id 0 k w ∧ H[id]? = some ⟨raw, true, true⟩ ∧ raw.length = k * w ∧ OwnC d H (List.replicate k cty).flatten raw cells is ∧ (id :: is).Nodup
theorem OwnSI.nil (d : Nat) (H : Ac) (w : Nat) (cty : List Nat) : OwnSI d H w cty .nl 0 [] [] := .inl ⟨rfl, rfl, rfl, rfl⟩
theorem OwnSI.lt {d : Nat} {H : Ac} {w : Nat} {cty : List Nat} {x : AV} {k : Nat} {cells : List AV} {ids : List Nat} (h : OwnSI d H w cty x k cells ids) : ∀ i ∈ ids, i < H.length := by
 rcases h with ⟨_, _, _, rfl⟩ | ⟨id, raw, is, rfl, _, h2, _, h4, _⟩
 ·intro i hi
  cases hi
 ·intro i hi
  rcases List.mem_cons.1 hi with rfl | hi
  ·exact (List.getElem?_eq_some_iff.1 h2).1
  ·exact h4.lt i hi
theorem OwnSI.nodup {d : Nat} {H : Ac} {w : Nat} {cty : List Nat} {x : AV} {k : Nat} {cells : List AV} {ids : List Nat} (h : OwnSI d H w cty x k cells ids) : ids.Nodup := by
 rcases h with ⟨_, _, _, rfl⟩ | ⟨id, raw, is, rfl, _, h2, _, h4, h5⟩
 ·exact List.nodup_nil
 ·exact h5
theorem OwnSI.frame {d : Nat} {H H' : Ac} {w : Nat} {cty : List Nat} {x : AV} {k : Nat} {cells : List AV} {ids : List Nat} (h : OwnSI d H w cty x k cells ids) (hs : ∀ i ∈ ids, H'[i]? = H[i]?) : OwnSI d H' w cty x k cells ids := by
 rcases h with h | ⟨id, raw, is, rfl, h1, h2, h3, h4, h5⟩
 ·exact .inl h
 ·exact .inr ⟨id, raw, is, rfl, h1, by rw [hs id List.mem_cons_self]; exact h2, h3, h4.frame fun i hi => hs i (List.mem_cons_of_mem _ hi), h5⟩
theorem OwnSI.grow {d : Nat} {H : Ac} {w : Nat} {cty : List Nat} {x : AV} {k : Nat} {cells : List AV} {ids : List Nat} (h : OwnSI d H w cty x k cells ids) (X : List Gl) : OwnSI d (H ++ X) w cty x k cells ids :=
 h.frame fun i hi => List.getElem?_append_left (h.lt i hi)
theorem OwnSI.res {H : Ac} {d w tyS k : Nat} {cty : List Nat} {x : AV} {cells : List AV} {ids : List Nat} (h : OwnSI d H w cty x k cells ids) (hty : ∃ i j, At tyS = some i ∧ At i.elem = some j ∧ j.size = w ∧ j.cty = cty) : B6 At E0.tp H (d + 1) tyS x = some (.ro k cells, ids) := by
 rcases h with ⟨rfl, rfl, rfl, rfl⟩ | ⟨id, raw, is, rfl, rfl, h2, h3, h4, h5⟩
 ·rfl
 ·obtain ⟨i, j, e1, e2, rfl, rfl⟩ := hty
  rw [Fz]
  have ha : Fx H id = true := by simp only [Fx, h2]
  have hr : Ba H id 0 (k * j.size) = some raw := by
   simp only [Ba, h2, if_true, Nat.zero_add, h3, Nat.le_refl, List.drop_zero]
   rw [← h3, List.take_length]
  have h4' : Cm (B6 At E0.tp H d) (List.replicate k j.cty).flatten raw = some (cells, is) := h4
  simp only [e1, e2, Option.bind_some, if_true, ha, hr, h4']
variable {β : Type} {n : Nat} {r : Option β}
theorem V2 {d : Nat} {H X : Ac} {w bytes : Nat} {cty : List Nat} {x : AV} {k : Nat} {cells er ec : List AV} {ids eids : List Nat} {K : KO β} (hx : OwnSI d H w cty x k cells ids) (hw : er.length = w) (hl : er.all Aq = true)
  (he : OwnC d (H ++ X) cty er ec eids) (hn : eids.Nodup) (hge : ∀ i ∈ eids, H.length ≤ i) (hb : (k + 1) * bytes ≤ 140737488355328)
  (h : ∀ x' H' ids', OwnSI d H' w cty x' (k + 1) (cells ++ ec) ids' → (∀ i ∈ ids', i ∈ ids ∨ H.length ≤ i) → (∀ i, i < H.length → i ∉ ids → H'[i]? = H[i]?) → H.length ≤ H'.length → K x' H' = r) :
  Fj 1 w er true (H ++ X) (fun y G => Hh w bytes x y G K) = r := by
 have hy : ∀ G : Ac, C5 (G ++ [⟨er, true, true⟩]) w (.sl G.length 0 1 w) = some er := by
  intro G
  simp only [C5, if_true, Nat.one_mul, Ba, Hq G _ [], Nat.zero_add, hw, Nat.le_refl, List.drop_zero]
  rw [← hw, List.take_length]
 rcases hx with ⟨rfl, rfl, rfl, rfl⟩ | ⟨id, raw, is, rfl, rfl, h2, h3, h4, h5⟩
 ·simp only [Fj, Hh, G2, Option.bind_some, hy]
  rw [show C5 (H ++ X ++ [⟨er, true, true⟩]) w .nl = some [] from rfl]
  simp only [Option.bind_some, Mn]
  rw [if_pos hb, if_pos hl]
  refine h _ _ (_ :: eids) (.inr ⟨_, er, eids, rfl, rfl, ?_, by simp [hw], ?_, ?_⟩) (fun i hi => .inr ?_) (fun i hi _ => ?_) (by simp)
  ·rw [List.getElem?_append_right (Nat.le_refl _), Nat.sub_self]
   rfl
  ·simp only [Nat.zero_add, List.replicate_one, List.flatten_cons, List.flatten_nil, List.append_nil, List.nil_append]
   exact (he.grow _).grow _
  ·rw [List.nodup_cons]
   refine ⟨fun hm => ?_, hn⟩
   have := he.lt _ hm
   simp at this
   omega
  ·rcases List.mem_cons.1 hi with rfl | hi
   ·simp [Nat.add_assoc]
   ·exact hge i hi
  ·rw [List.append_assoc, List.append_assoc, List.getElem?_append_left hi]
 ·have hid : id < H.length := (List.getElem?_eq_some_iff.1 h2).1
  have hg : (H ++ X ++ [(⟨er, true, true⟩ : Gl)])[id]? = some ⟨raw, true, true⟩ := by
   rw [List.append_assoc, List.getElem?_append_left hid]
   exact h2
  have hcx : C5 (H ++ X ++ [⟨er, true, true⟩]) w (.sl id 0 k w) = some raw := by
   simp only [C5, if_true, Ba, hg, Nat.zero_add, h3, Nat.le_refl, List.drop_zero]
   rw [← h3, List.take_length]
  simp only [Fj, Hh, G2, Option.bind_some, hy, hcx, Mn, hg, if_true]
  rw [if_pos hb, if_pos hl]
  have hn5 := List.nodup_cons.1 h5
  have hne : ∀ i ∈ is, i ≠ id := fun i hi e => hn5.1 (e ▸ hi)
  have hne2 : ∀ i ∈ eids, i ≠ id := fun i hi e => by
   have := hge i hi
   omega
  refine h _ _ (_ :: (is ++ eids)) (.inr ⟨_, raw ++ er, is ++ eids, rfl, rfl, ?_, by simp [h3, hw, Nat.succ_mul], ?_, ?_⟩) (fun i hi => ?_) (fun i hi hni => ?_) (by simp; omega)
  ·rw [List.getElem?_append_right (Nat.le_refl _), Nat.sub_self]
   rfl
  ·have e : (List.replicate (k + 1) cty).flatten = (List.replicate k cty).flatten ++ cty := by
    rw [List.replicate_succ', List.flatten_append]
    simp
   rw [e]
   refine OwnC.append ?_ ?_
   ·refine OwnC.grow (OwnC.frame (H := H ++ X ++ [⟨er, true, true⟩]) ((h4.grow X).grow _) fun i hi => ?_) _
    rw [List.getElem?_set_ne (fun e => hne i hi e.symm)]
   ·refine OwnC.grow (OwnC.frame (H := H ++ X ++ [⟨er, true, true⟩]) (he.grow _) fun i hi => ?_) _
    rw [List.getElem?_set_ne (fun e => hne2 i hi e.symm)]
  ·rw [List.nodup_cons]
   refine ⟨fun hm => ?_, ?_⟩
   ·rcases List.mem_append.1 hm with hm | hm
    ·have := h4.lt _ hm
     simp at this
     omega
    ·have := he.lt _ hm
     simp at this
     omega
   ·rw [List.nodup_append]
    refine ⟨hn5.2, hn, fun a ha b hb e => ?_⟩
    have h1 := h4.lt a ha
    have h2 := hge b hb
    omega
  ·rcases List.mem_cons.1 hi with rfl | hi
   ·right
    simp [Nat.add_assoc]
   ·rcases List.mem_append.1 hi with hi | hi
    ·exact .inl (List.mem_cons_of_mem _ hi)
    ·exact .inr (hge i hi)
  ·have : i ≠ id := fun e => hni (e ▸ List.mem_cons_self)
   rw [List.getElem?_append_left (by simp; omega), List.getElem?_set_ne (fun e => this e.symm), List.append_assoc, List.getElem?_append_left hi]
theorem Wk {w : Nat} {z ys : List AV} (hz : z.length = w) (hy : ys.length = w) (hl : ys.all Aq = true) : Ev z [(0, w, .agg ys)] = some ys := by
 have hc : Cx (.agg ys) = some ys := by
  show (if ys.all Aq then some ys else none) = _
  rw [if_pos hl]
 have hs : Cg z 0 ys = ys := by
  unfold Cg
  rw [List.take_zero, List.nil_append, List.drop_of_length_le (by rw [hy, hz]; omega), List.append_nil]
 show ((Cx (.agg ys)).bind fun cs => if cs.length = w then (if 0 + w ≤ z.length then Ev (Cg z 0 cs) [] else none) else none) = _
 rw [hc, Option.bind_some, if_pos hy, if_pos (by omega), hs]
 rfl
end
section
open Go
variable {β : Type} {n : Nat} {r : Option β}
theorem AbS {α : Type} {w : Nat} {enc : α → List AV} {l pre t : List α} {x : α} {K : AV → Option β} (hw : ∀ x, (enc x).length = w) (h0 : 0 < w) (hl : l = pre ++ x :: t) (h : K (.rp (enc x ++ (t.map enc).flatten)) = r) : E7 w (Al enc l) (.sc (.int .i64 (pre.length : Int))) (fun t => K t) = r := by
 subst hl
 exact (Oy (β := β) hw h0 pre x t (fun t => K t)).trans h
theorem Adl (N : Nat) (s : ByteArray) : Bo At E0.tp N 22 (Bj s) = (.sl N 0 s.size 1, [⟨Bh s, true, true⟩]) := by
 obtain ⟨i, j, h1, h2, h3, h4⟩ := Nk
 show Bo At E0.tp N 22 (.ro s.size (Bh s)) = _
 simp only [Bo, h1, Option.bind_some, h2, Option.getD_some, h3, Jv, Pj]
theorem Ad8 (N : Nat) (m : Da) : Bw At E0.tp N Hf (Au m) = ([.sc (.string m.fTopic), .sl N 0 m.fBody.size 1, .sc (.int .i64 m.fQos), .sc (.bool m.fRetain)], [⟨Bh m.fBody, true, true⟩]) := by
 have h := Adl N m.fBody
 show Bw At E0.tp N [9, 22, 3, 4] [.sc (.string m.fTopic), Bj m.fBody, .sc (.int .i64 m.fQos), .sc (.bool m.fRetain)] = _
 simp only [Bw, List.headD_cons, List.tail_cons, G8, List.length_nil, Nat.add_zero, h, List.nil_append, List.append_nil]
theorem Kf (N : Nat) (f : Ao) : Bw At E0.tp N F9 (Az f) = ([.sc (.int .i64 f.fId), .sc (.string f.fM.fTopic), .sl N 0 f.fM.fBody.size 1, .sc (.int .i64 f.fM.fQos), .sc (.bool f.fM.fRetain), .sc (.int .i64 f.fSt)], [⟨Bh f.fM.fBody, true, true⟩]) := by
 have h := Adl N f.fM.fBody
 show Bw At E0.tp N [3, 9, 22, 3, 4, 3] [.sc (.int .i64 f.fId), .sc (.string f.fM.fTopic), Bj f.fM.fBody, .sc (.int .i64 f.fM.fQos), .sc (.bool f.fM.fRetain), .sc (.int .i64 f.fSt)] = _
 simp only [Bw, List.headD_cons, List.tail_cons, G8, List.length_nil, Nat.add_zero, h, List.nil_append, List.append_nil]
theorem Ql {te g k : Nat} {H X0 : Ac} {x : AV} {cells : List AV} {ids : List Nat} {args : List AV} {f : Ao} {K : KO β} (hx : OwnSI 6 H 6 F9 x k cells ids) (hh : F4 g = false) (hv : args.mapM (Ds (H ++ X0) 8) = some [.agg (Au f.fM)]) (ht : Di E0 n te g [.agg (Au f.fM)] = some (.agg (Au f.fM)))
  (hte : ∃ i, At te = some i ∧ i.cty = Hf) (hb : (k + 1) * 72 ≤ 140737488355328)
  (h : ∀ x' H' ids', OwnSI 6 H' 6 F9 x' (k + 1) (cells ++ Az f) ids' → (∀ i ∈ ids', i ∈ ids ∨ H.length ≤ i) → (∀ i, i < H.length → i ∉ ids → H'[i]? = H[i]?) → H.length ≤ H'.length → K x' H' = r) :
  ((PR n β).call te (.fn g [] []) args (H ++ X0) fun t G => (Ev Rm [(0, 1, .sc (.int .i64 f.fId)), (1, 4, t), (5, 1, .sc (.int .i64 f.fSt))]).bind fun c => (Ev Rm [(0, 6, .agg c)]).bind fun ct => Fj 1 6 ct true G fun y G => Hh 6 72 x y G K) = r := by
 obtain ⟨i, hi, hc⟩ := hte
 rw [El hh hv ht, Fq, hi, Option.getD_some, hc, Ad8]
 simp only
 have hf : Ev Rm [(0, 1, .sc (.int .i64 f.fId)), (1, 4, .agg [.sc (.string f.fM.fTopic), .sl (H ++ X0).length 0 f.fM.fBody.size 1, .sc (.int .i64 f.fM.fQos), .sc (.bool f.fM.fRetain)]), (5, 1, .sc (.int .i64 f.fSt))] = some [.sc (.int .i64 f.fId), .sc (.string f.fM.fTopic), .sl (H ++ X0).length 0 f.fM.fBody.size 1, .sc (.int .i64 f.fM.fQos), .sc (.bool f.fM.fRetain), .sc (.int .i64 f.fSt)] := rfl
 rw [hf, Option.bind_some, Wk (w := 6) rfl rfl rfl, Option.bind_some]
 have key := V2 (H := H) (X := X0 ++ [⟨Bh f.fM.fBody, true, true⟩]) (bytes := 72) (er := (Bw At E0.tp (H ++ X0).length F9 (Az f)).1) (ec := Az f) (eids := List.range' (H ++ X0).length (Bw At E0.tp (H ++ X0).length F9 (Az f)).2.length) (K := K) (r := r) hx (by rw [Kf]; rfl) (by rw [Kf]; rfl) (by
   have := Vm (d := 6) (H := H ++ X0) (K6 4 f)
   rw [Kf] at this ⊢
   rwa [List.append_assoc] at this) List.nodup_range' (fun j hj => by
   rw [List.mem_range'_1] at hj
   have := hj.1
   simp at this
   omega) hb h
 rw [Kf, ← List.append_assoc] at key
 exact key
structure OutI (H : Ac) (io i2 i1 : Nat) (o : B5) (x q : AV) (k : Nat) (cells : List AV) (ids qids : List Nat) : Prop where
 ho : H[io]? = some ⟨[.sc (.int .i64 o.fLast), x, q], true, true⟩
 hs : OwnSI 6 H 6 F9 x k cells ids
 hq : B6 At E0.tp H 7 79 q = some (Al Au o.fQ, qids)
 qn : qids.Nodup
 hz : ∃ z2, H[i2]? = some ⟨z2, true, true⟩ ∧ z2.length = 3
 src : H[i1]? = some ⟨Bg o, true, true⟩
 ne : io ≠ i2
 ne1 : i1 ≠ io
 ne2 : i1 ≠ i2
 o1 : io ∉ ids
 o2 : io ∉ qids
 z1 : i2 ∉ ids
 z2 : i2 ∉ qids
 s1 : i1 ∉ ids
 dj : ∀ i ∈ qids, i ∉ ids
theorem OutI.lt {H : Ac} {io i2 i1 : Nat} {o : B5} {x q : AV} {k : Nat} {cells : List AV} {ids qids : List Nat} (h : OutI H io i2 i1 o x q k cells ids qids) : io < H.length ∧ i2 < H.length ∧ i1 < H.length ∧ ∀ i ∈ qids, i < H.length := by
 obtain ⟨z2, hz, _⟩ := h.hz
 exact ⟨(List.getElem?_eq_some_iff.1 h.ho).1, (List.getElem?_eq_some_iff.1 hz).1, (List.getElem?_eq_some_iff.1 h.src).1, Kw 7 _ _ _ h.hq⟩
theorem OutI.put {H H' : Ac} {io i2 i1 : Nat} {o : B5} {x x' q : AV} {k : Nat} {cells ec : List AV} {ids ids' qids : List Nat} {K : Ac → Option β} (h : OutI H io i2 i1 o x q k cells ids qids)
  (h1 : OwnSI 6 H' 6 F9 x' (k + 1) (cells ++ ec) ids') (h2 : ∀ i ∈ ids', i ∈ ids ∨ H.length ≤ i) (h3 : ∀ i, i < H.length → i ∉ ids → H'[i]? = H[i]?) (hk : ∀ H'', OutI H'' io i2 i1 o x' q (k + 1) (cells ++ ec) ids' qids → K H'' = r) :
  Dt 1 (.ptr io (0 + 1)) x' H' K = r := by
 obtain ⟨l1, l2, l3, l4⟩ := h.lt
 have hlf : Cx x' = some [x'] := by
  rcases h1 with ⟨_, h0, _⟩ | ⟨id, raw, is, _, rfl, _⟩
  ·omega
  ·rfl
 have ho : H'[io]? = some ⟨[.sc (.int .i64 o.fLast), x, q], true, true⟩ := by rw [h3 io l1 h.o1]; exact h.ho
 have hio : io < H'.length := (List.getElem?_eq_some_iff.1 ho).1
 rw [En 1 io (0 + 1) x' _ [x'] H' K ho hlf rfl (A7 rfl) rfl]
 have hni : io ∉ ids' := fun hm => by
  rcases h2 io hm with h' | h'
  ·exact h.o1 h'
  ·omega
 refine hk _ ⟨?_, ?_, ?_, h.qn, ?_, ?_, h.ne, h.ne1, h.ne2, hni, h.o2, ?_, h.z2, ?_, ?_⟩
 ·rw [List.getElem?_set_self hio]
  rfl
 ·refine h1.frame fun i hi => ?_
  rw [List.getElem?_set_ne (fun (e : io = i) => hni (e ▸ hi))]
 ·refine Dd 7 _ _ _ h.hq fun i hi => ?_
  rw [List.getElem?_set_ne (fun (e : io = i) => h.o2 (e ▸ hi)), h3 i (l4 i hi) (h.dj i hi)]
 ·obtain ⟨z2, hz, hl⟩ := h.hz
  exact ⟨z2, by rw [List.getElem?_set_ne h.ne, h3 i2 l2 h.z1]; exact hz, hl⟩
 ·rw [List.getElem?_set_ne (fun e => h.ne1 e.symm), h3 i1 l3 h.s1]
  exact h.src
 ·intro hm
  rcases h2 i2 hm with h' | h'
  ·exact h.z1 h'
  ·omega
 ·intro hm
  rcases h2 i1 hm with h' | h'
  ·exact h.s1 h'
  ·omega
 ·intro i hi hm
  rcases h2 i hm with h' | h'
  ·exact h.dj i hi h'
  ·have := l4 i hi
   omega
theorem OutI.fin {H : Ac} {io i2 i1 : Nat} {o : B5} {x q : AV} {ids qids : List Nat} (h : OutI H io i2 i1 o x q o.fFl.length (o.fFl.map Az).flatten ids qids) :
  (C2 true 3 (.ptr io 0) H fun t => Dt 3 (.ptr i2 0) t H fun H => C2 true 3 (.ptr i2 0) H fun r0 => Bc At E0.tp 115 H r0) = some (.agg (Bg o)) := by
 obtain ⟨l1, l2, l3, l4⟩ := h.lt
 obtain ⟨z2, hz, hzl⟩ := h.hz
 have hx : Aq x = true := by
  rcases h.hs with ⟨rfl, _⟩ | ⟨id, raw, is, _, rfl, _⟩ <;> rfl
 have hq : Aq q = true := by
  have := h.hq
  cases q with
  | sc v => cases this
  | nl => rfl
  | sl => rfl
  | agg cs =>
   rw [D4] at this
   simp only [Option.bind_eq_some_iff] at this
   obtain ⟨_, _, _, _, h3⟩ := this
   cases h3
  | tup cs =>
   rw [Ft] at this
   simp only [Option.bind_eq_some_iff] at this
   obtain ⟨_, _, _, _, h3⟩ := this
   cases h3
  | _ => simp [B6] at this
 refine F0 (ds := [.sc (.int .i64 o.fLast), x, q]) h.ho (A7 rfl) rfl ?_
 have hc : Cx (.agg [.sc (.int .i64 o.fLast), x, q]) = some [.sc (.int .i64 o.fLast), x, q] := by
  show (if (true && (Aq x && (Aq q && true))) = true then _ else none) = _
  rw [hx, hq]
  rfl
 rw [En 3 i2 0 _ ⟨z2, true, true⟩ [.sc (.int .i64 o.fLast), x, q] H _ hz hc rfl (by show 0 + 3 ≤ z2.length; omega) rfl]
 have hs : Cg z2 0 [.sc (.int .i64 o.fLast), x, q] = [.sc (.int .i64 o.fLast), x, q] := by
  unfold Cg
  rw [List.take_zero, List.nil_append, List.drop_of_length_le (by rw [hzl]; exact Nat.le_refl _), List.append_nil]
 simp only [hs]
 refine F0 (ds := [.sc (.int .i64 o.fLast), x, q]) (cs := [.sc (.int .i64 o.fLast), x, q]) (by rw [List.getElem?_set_self l2]) (A7 rfl) rfl ?_
 have e1 := (h.hs.frame (H' := H.set i2 ⟨[.sc (.int .i64 o.fLast), x, q], true, true⟩) fun i hi => by rw [List.getElem?_set_ne (fun (e : i2 = i) => h.z1 (e ▸ hi))]).res Pw
 have e2 := Dd (H' := H.set i2 ⟨[.sc (.int .i64 o.fLast), x, q], true, true⟩) 7 _ _ _ h.hq fun i hi => by rw [List.getElem?_set_ne (fun (e : i2 = i) => h.z2 (e ▸ hi))]
 obtain ⟨i, hi, hcy⟩ := Wq
 rw [Bc, D4, hi, Option.bind_some, hcy]
 simp only [Gp, Cm, Gt, e1, e2, Option.bind_some, List.nil_append, List.append_nil]
 rw [if_pos]
 ·rfl
 ·rw [List.nodup_append]
  exact ⟨h.hs.nodup, h.qn, fun a ha b hb e => h.dj b hb (e ▸ ha)⟩
def M4 (o : B5) : Prop := (o.fFl.length ≤ 1048576 ∧ ∀ x ∈ o.fFl, x.fM.fBody.size ≤ 1048576) ∧ (o.fQ.length ≤ 1048576 ∧ ∀ x ∈ o.fQ, x.fBody.size ≤ 1048576)
theorem S3 (n : Nat) (hn : 1048576 < n) (o : B5) (hs : M4 o) (io i2 i1 : Nat) (q : AV) (qids : List Nat) : ∀ (t pre : List Ao) (m : Nat) (x : AV) (H : Ac) (ids : List Nat), o.fFl = pre ++ t → t.length < m → OutI H io i2 i1 o x q pre.length (pre.map Az).flatten ids qids →
  Nh (PR (n + 3) AV) (n + 3) (fun x H => Bc At E0.tp 115 H x) m (.ptr i1 0) (.ptr i2 0) (.ptr io 0) (.sc (.int .i64 pre.length)) H = some (.agg (Bg o))
 | [], pre, m + 1, x, H, ids, he, hm, hi => by
  rw [List.append_nil] at he
  show (PR (n + 3) AV).fadr _ _ _ = _
  simp only [Bi, A4, Ca, A9, Aw, A6]
  refine Ap ?_
  refine Ce (c := Al Az o.fFl) hi.src (A7 rfl) rfl ?_
  refine Do ?_
  rw [D2, D8, if_neg (by rw [he]; simp)]
  subst he
  exact hi.fin
 | y :: t, pre, m + 1, x, H, ids, he, hm, hi => by
  have hlt : pre.length < o.fFl.length := by rw [he]; simp
  have hy : y.fM.fBody.size ≤ 1048576 := hs.1.2 y (by rw [he]; simp)
  have hlen := hs.1.1
  show (PR (n + 3) AV).fadr _ _ _ = _
  simp only [Bi, A4, Ca, A9, Aw, A6, Cc, Be, Bm, Cy]
  refine Ap ?_
  refine Ce (c := Al Az o.fFl) hi.src (A7 rfl) rfl ?_
  refine Do ?_
  rw [D2, D8, if_pos (by simpa using hlt)]
  refine Ap ?_
  refine Ce (c := x) hi.ho (A7 rfl) rfl ?_
  refine Ap ?_
  refine Ce (c := Al Az o.fFl) hi.src (A7 rfl) rfl ?_
  refine AbS Br (by decide) he ?_
  refine Ht ?_
  refine Jd (c := .sc (.int .i64 y.fId)) rfl ?_
  refine Ap ?_
  refine Ce (c := Al Az o.fFl) hi.src (A7 rfl) rfl ?_
  refine AbS Br (by decide) he ?_
  refine Ht ?_
  refine J4 (ds := Au y.fM) (A7 rfl) rfl ?_
  refine Ap ?_
  refine Ce (c := Al Az o.fFl) hi.src (A7 rfl) rfl ?_
  refine AbS Br (by decide) he ?_
  refine Ht ?_
  refine Jd (c := .sc (.int .i64 y.fSt)) rfl ?_
  have hst := fun K h => Ql (β := AV) (n := n + 3) (X0 := []) (f := y) (K := K) (r := some (.agg (Bg o))) hi.hs rfl (Cl (F7 _ (Hg _)) E6) (Q7 (n + 2) y.fM hy) Pf (by omega) h
  simp only [List.append_nil] at hst
  refine hst _ fun x' H' ids' h1 h2 h3 h4 => ?_
  refine Ap ?_
  refine hi.put h1 h2 h3 fun H'' hi' => ?_
  rw [Ey _ _ (by omega)]
  have ih := S3 n hn o hs io i2 i1 q qids t (pre ++ [y]) m x' H'' ids' (by rw [he]; simp) (by simpa using hm) (by
   rw [List.length_append, List.length_singleton, List.map_append, List.flatten_append]
   simpa using hi')
  rw [List.length_append, List.length_singleton] at ih
  exact ih
theorem Ma (n : Nat) (hn : 1048576 < n) (o : B5) (hs : M4 o) (io i2 i1 : Nat) (q : AV) (qids : List Nat) : ∀ (t pre : List Ao) (m : Nat) (x : AV) (H : Ac) (ids : List Nat), o.fFl = pre ++ t → t.length < m → OutI H io i2 i1 o x q pre.length (pre.map Az).flatten ids qids →
  Nf (PR (n + 3) AV) (n + 3) (fun x H => Bc At E0.tp 115 H x) m (.ptr i2 0) (.ptr io 0) (Al Az o.fFl) (.sc (.int .i64 o.fFl.length)) (.sc (.int .i64 pre.length)) H = some (.agg (Bg o))
 | [], pre, m + 1, x, H, ids, he, hm, hi => by
  rw [List.append_nil] at he
  show (PR (n + 3) AV).bin _ _ _ _ = _
  simp only [Bi, A4, Ca, A9, Aw, A6]
  rw [D2, D8, if_neg (by rw [he]; simp)]
  subst he
  exact hi.fin
 | y :: t, pre, m + 1, x, H, ids, he, hm, hi => by
  have hlt : pre.length < o.fFl.length := by rw [he]; simp
  have hy : y.fM.fBody.size ≤ 1048576 := hs.1.2 y (by rw [he]; simp)
  have hlen := hs.1.1
  obtain ⟨l1, l2, l3, l4⟩ := hi.lt
  show (PR (n + 3) AV).bin _ _ _ _ = _
  simp only [Bi, A4, Ca, A9, Aw, A6, Cc, Be, Bm, Cy, Cj]
  rw [D2, D8, if_pos (by simpa using hlt)]
  refine AbS Br (by decide) he ?_
  refine J4 (ds := Az y) (A7 rfl) rfl ?_
  refine Zi rfl (Br _) (Q8 (Gv _)) fun i5 h5 => ?_
  refine Ap ?_
  refine Ce (c := x) (Pa hi.ho _) (A7 rfl) rfl ?_
  refine Ap ?_
  refine Ce (c := .sc (.int .i64 y.fId)) h5 (A7 rfl) rfl ?_
  refine Ap ?_
  refine F0 (ds := Au y.fM) h5 (A7 rfl) rfl ?_
  refine Ap ?_
  refine Ce (c := .sc (.int .i64 y.fSt)) h5 (A7 rfl) rfl ?_
  refine Ql (β := AV) (n := n + 3) (X0 := [⟨Az y, true, true⟩]) (f := y) (r := some (.agg (Bg o))) hi.hs rfl (Cl (F7 _ (Hg _)) E6) (V4 (n + 1) (by omega) y.fM hy) Pf (by omega) fun x' H' ids' h1 h2 h3 h4 => ?_
  refine Ap ?_
  refine hi.put h1 h2 h3 fun H'' hi' => ?_
  rw [Ey _ _ (by omega)]
  have ih := Ma n hn o hs io i2 i1 q qids t (pre ++ [y]) m x' H'' ids' (by rw [he]; simp) (by simpa using hm) (by
   rw [List.length_append, List.length_singleton, List.map_append, List.flatten_append]
   simpa using hi')
  rw [List.length_append, List.length_singleton] at ih
  exact ih
theorem Adn (o : B5) (A : AV × List Gl) (hA : Bo At E0.tp 2 79 (Al Au o.fQ) = A) : OutI (([⟨Bg o, true, true⟩, ⟨C0, true, true⟩] ++ A.2 ++ [⟨C0, true, true⟩] : Ac).set (2 + A.2.length) ⟨[.sc (.int .i64 o.fLast), .nl, A.1], true, true⟩) (2 + A.2.length) 1 0 o .nl A.1 0 [] [] (List.range' 2 A.2.length) := by
 have hlen : ([⟨Bg o, true, true⟩, ⟨C0, true, true⟩] ++ A.2 : Ac).length = 2 + A.2.length := by simp; omega
 have e : ([⟨Bg o, true, true⟩, ⟨C0, true, true⟩] ++ A.2 ++ [⟨C0, true, true⟩] : Ac).set (2 + A.2.length) ⟨[.sc (.int .i64 o.fLast), .nl, A.1], true, true⟩ = [⟨Bg o, true, true⟩, ⟨C0, true, true⟩] ++ A.2 ++ [⟨[.sc (.int .i64 o.fLast), .nl, A.1], true, true⟩] := by
  rw [← hlen]
  exact R9 _ _ _ []
 rw [e]
 refine ⟨?_, OwnSI.nil _ _ _ _, ?_, List.nodup_range', ⟨C0, rfl, rfl⟩, rfl, by omega, by omega, by decide, by simp, ?_, by simp, ?_, by simp, by simp⟩
 ·rw [← hlen]
  exact Hq _ _ []
 ·rw [← hA]
  refine F1 7 _ _ 2 (Fk (d := 6) Eu Ku (H7 4) o.fQ) ?_
  rw [hA]
  exact Km [(⟨Bg o, true, true⟩ : Gl), ⟨C0, true, true⟩] A.2 _
 ·rw [List.mem_range'_1]; omega
 ·rw [List.mem_range'_1]; omega
theorem AdE (o : B5) (A : AV × List Gl) (hA : Bo At E0.tp 3 79 (Al Au o.fQ) = A) : OutI (([⟨Bg o, true, true⟩, ⟨C0, true, true⟩, ⟨C0, true, true⟩] ++ A.2 : Ac).set 2 ⟨[.sc (.int .i64 o.fLast), .nl, A.1], true, true⟩) 2 1 0 o .nl A.1 0 [] [] (List.range' 3 A.2.length) := by
 refine ⟨rfl, OwnSI.nil _ _ _ _, ?_, List.nodup_range', ⟨C0, rfl, rfl⟩, rfl, by decide, by decide, by decide, by simp, ?_, by simp, ?_, by simp, by simp⟩
 ·rw [← hA]
  refine F1 7 _ _ 3 (Fk (d := 6) Eu Ku (H7 4) o.fQ) ?_
  rw [hA]
  exact Li [(⟨Bg o, true, true⟩ : Gl), ⟨C0, true, true⟩, (⟨[.sc (.int .i64 o.fLast), .nl, A.1], true, true⟩ : Gl)] A.2
 ·rw [List.mem_range'_1]; omega
 ·rw [List.mem_range'_1]; omega
theorem Ni (N : Nat) (o : B5) : Aq (Bo At E0.tp N 79 (Al Au o.fQ)).1 = true := rfl
theorem Ot (n : Nat) (hn : 1048576 < n) (o : B5) (hs : M4 o) : Di E0 (n + 4) 115 157 [.agg (Bg o)] = some (.agg (Bg o)) := by
 rw [Bu, Af8, f157]
 simp only [De, Cj, Bi, A4, Aav, Be, A6, Ie]
 rw [I5 _ _ _ (H5 o)]
 simp only [List.length_nil, List.nil_append, List.length_cons, Nat.zero_add]
 have hz : ([⟨[.sc (.int .i64 0), .nl, .nl], true, true⟩] : Ac) = [⟨C0, true, true⟩] := rfl
 rw [hz]
 have hH : ([⟨Bg o, true, true⟩] ++ [⟨C0, true, true⟩] : Ac)[0]? = some ⟨Bg o, true, true⟩ := rfl
 refine Ap ?_
 refine Ce (c := .sc (.int .i64 o.fLast)) hH (A7 rfl) rfl ?_
 refine Ap ?_
 refine Ce (c := Al Au o.fQ) hH (A7 rfl) rfl ?_
 refine Og ?_ ?_
 ·rw [El (vs := [Al Au o.fQ]) rfl (Cl (Ik _ _ _) E6) (Oq n hn o.fQ hs.2.1 hs.2.2)]
  have hl := Ni 2 o
  generalize hA : Bo At E0.tp 2 79 (Al Au o.fQ) = A at hl
  have hA' : Bo At E0.tp ([⟨Bg o, true, true⟩] ++ [⟨C0, true, true⟩] : Ac).length 79 (Al Au o.fQ) = A := hA
  rw [hA']
  have hc1 : Cx A.1 = some [A.1] := by
   generalize A.1 = y at hl
   cases y <;> first | (simp [Aq] at hl; done) | (simp only [Cx, hl, if_true]) | rfl
  refine Lr (cs := [.sc (.int .i64 o.fLast), .nl, A.1]) (by simp only [Ev, hc1]; rfl) ?_
  have hlen : ([⟨Bg o, true, true⟩] ++ [⟨C0, true, true⟩] ++ A.2 : Ac).length = 2 + A.2.length := by simp; omega
  have hg : ([⟨Bg o, true, true⟩] ++ [⟨C0, true, true⟩] ++ A.2 ++ [⟨C0, true, true⟩] : Ac)[2 + A.2.length]? = some ⟨C0, true, true⟩ := by
   rw [← hlen]
   exact Hq _ _ []
  have hc : Cx (.agg [.sc (.int .i64 o.fLast), .nl, A.1]) = some [.sc (.int .i64 o.fLast), .nl, A.1] := by
   show (if (true && (true && (Aq A.1 && true))) = true then _ else none) = _
   rw [hl]
   rfl
  rw [hlen, En 3 (2 + A.2.length) 0 _ ⟨C0, true, true⟩ [.sc (.int .i64 o.fLast), .nl, A.1] _ _ hg hc rfl (A7 rfl) rfl]
  exact S3 n hn o hs (2 + A.2.length) 1 0 A.1 _ o.fFl [] (n + 3) .nl _ [] rfl (by have := hs.1.1; omega) (Adn o A hA)
 ·rw [El (vs := [Al Au o.fQ]) rfl (Cl (Ik _ _ _) E6) (Oq n hn o.fQ hs.2.1 hs.2.2)]
  have hl := Ni 3 o
  generalize hA : Bo At E0.tp 3 79 (Al Au o.fQ) = A at hl
  have hA' : Bo At E0.tp ([⟨Bg o, true, true⟩] ++ [⟨C0, true, true⟩] ++ [⟨C0, true, true⟩] : Ac).length 79 (Al Au o.fQ) = A := hA
  rw [hA']
  have hc1 : Cx A.1 = some [A.1] := by
   generalize A.1 = y at hl
   cases y <;> first | (simp [Aq] at hl; done) | (simp only [Cx, hl, if_true]) | rfl
  refine Lr (cs := [.sc (.int .i64 o.fLast), .nl, A.1]) (by simp only [Ev, hc1]; rfl) ?_
  have hc : Cx (.agg [.sc (.int .i64 o.fLast), .nl, A.1]) = some [.sc (.int .i64 o.fLast), .nl, A.1] := by
   show (if (true && (true && (Aq A.1 && true))) = true then _ else none) = _
   rw [hl]
   rfl
  rw [show ([⟨Bg o, true, true⟩] ++ [⟨C0, true, true⟩] : Ac).length = 2 from rfl]
  rw [En 3 2 0 _ ⟨C0, true, true⟩ [.sc (.int .i64 o.fLast), .nl, A.1] _ _ rfl hc rfl (A7 rfl) rfl]
  exact S3 n hn o hs 2 1 0 A.1 _ o.fFl [] (n + 3) .nl _ [] rfl (by have := hs.1.1; omega) (AdE o A hA)
theorem AcL (n : Nat) (hn : 1048576 < n) (o : B5) (hs : M4 o) : Di E0 (n + 4) 115 108 [.agg (Bg o)] = some (.agg (Bg o)) := by
 rw [Bu, AeF, f108]
 simp only [De, Cj, Bi, A4, Aav, Be, A6, Ca, Ie]
 rw [I5 _ _ _ (H5 o)]
 simp only [List.length_nil, List.nil_append, List.length_cons, Nat.zero_add]
 have hz : ([⟨[.sc (.int .i64 0), .nl, .nl], true, true⟩] : Ac) = [⟨C0, true, true⟩] := rfl
 rw [hz]
 have hH : ([⟨Bg o, true, true⟩] ++ [⟨C0, true, true⟩] : Ac)[0]? = some ⟨Bg o, true, true⟩ := rfl
 refine Ap ?_
 refine Ce (c := .sc (.int .i64 o.fLast)) hH (A7 rfl) rfl ?_
 refine Ap ?_
 refine Ce (c := Al Au o.fQ) hH (A7 rfl) rfl ?_
 refine Og ?_ ?_
 ·rw [El (vs := [Al Au o.fQ]) rfl (Cl (Ik _ _ _) E6) (Tq n hn o.fQ hs.2.1 hs.2.2)]
  have hl := Ni 2 o
  generalize hA : Bo At E0.tp 2 79 (Al Au o.fQ) = A at hl
  have hA' : Bo At E0.tp ([⟨Bg o, true, true⟩] ++ [⟨C0, true, true⟩] : Ac).length 79 (Al Au o.fQ) = A := hA
  rw [hA']
  have hc1 : Cx A.1 = some [A.1] := by
   generalize A.1 = y at hl
   cases y <;> first | (simp [Aq] at hl; done) | (simp only [Cx, hl, if_true]) | rfl
  refine Lr (cs := [.sc (.int .i64 o.fLast), .nl, A.1]) (by simp only [Ev, hc1]; rfl) ?_
  have hlen : ([⟨Bg o, true, true⟩] ++ [⟨C0, true, true⟩] ++ A.2 : Ac).length = 2 + A.2.length := by simp; omega
  have hg : ([⟨Bg o, true, true⟩] ++ [⟨C0, true, true⟩] ++ A.2 ++ [⟨C0, true, true⟩] : Ac)[2 + A.2.length]? = some ⟨C0, true, true⟩ := by
   rw [← hlen]
   exact Hq _ _ []
  have hc : Cx (.agg [.sc (.int .i64 o.fLast), .nl, A.1]) = some [.sc (.int .i64 o.fLast), .nl, A.1] := by
   show (if (true && (true && (Aq A.1 && true))) = true then _ else none) = _
   rw [hl]
   rfl
  rw [hlen, En 3 (2 + A.2.length) 0 _ ⟨C0, true, true⟩ [.sc (.int .i64 o.fLast), .nl, A.1] _ _ hg hc rfl (A7 rfl) rfl]
  have hI := Adn o A hA
  refine Ap ?_
  refine Ce (c := Al Az o.fFl) hI.src (A7 rfl) rfl ?_
  refine Do ?_
  exact Ma n hn o hs (2 + A.2.length) 1 0 A.1 _ o.fFl [] (n + 3) .nl _ [] rfl (by have := hs.1.1; omega) hI
 ·rw [El (vs := [Al Au o.fQ]) rfl (Cl (Ik _ _ _) E6) (Tq n hn o.fQ hs.2.1 hs.2.2)]
  have hl := Ni 3 o
  generalize hA : Bo At E0.tp 3 79 (Al Au o.fQ) = A at hl
  have hA' : Bo At E0.tp ([⟨Bg o, true, true⟩] ++ [⟨C0, true, true⟩] ++ [⟨C0, true, true⟩] : Ac).length 79 (Al Au o.fQ) = A := hA
  rw [hA']
  have hc1 : Cx A.1 = some [A.1] := by
   generalize A.1 = y at hl
   cases y <;> first | (simp [Aq] at hl; done) | (simp only [Cx, hl, if_true]) | rfl
  refine Lr (cs := [.sc (.int .i64 o.fLast), .nl, A.1]) (by simp only [Ev, hc1]; rfl) ?_
  have hc : Cx (.agg [.sc (.int .i64 o.fLast), .nl, A.1]) = some [.sc (.int .i64 o.fLast), .nl, A.1] := by
   show (if (true && (true && (Aq A.1 && true))) = true then _ else none) = _
   rw [hl]
   rfl
  rw [show ([⟨Bg o, true, true⟩] ++ [⟨C0, true, true⟩] : Ac).length = 2 from rfl]
  rw [En 3 2 0 _ ⟨C0, true, true⟩ [.sc (.int .i64 o.fLast), .nl, A.1] _ _ rfl hc rfl (A7 rfl) rfl]
  have hI := AdE o A hA
  refine Ap ?_
  refine Ce (c := Al Az o.fFl) hI.src (A7 rfl) rfl ?_
  refine Do ?_
  exact Ma n hn o hs 2 1 0 A.1 _ o.fFl [] (n + 3) .nl _ [] rfl (by have := hs.1.1; omega) hI
end
section
open Go
variable {α : Type}
theorem Acd {wt : α → Nat} (sm : α → Prop) (hs : ∀ x, wt x ≤ 1048576 → sm x) (l : List α) (h : F2 wt l ≤ 1048576) : l.length ≤ 1048576 ∧ ∀ y ∈ l, sm y := by
 have h1 := Jr wt l
 refine ⟨by omega, fun y hy => hs y ?_⟩
 have h2 := Pb (wt := wt) hy
 omega
def Sf (x : Da) : Prop := x.fBody.size ≤ 1048576 ∧ True
theorem R8 (x : Da) (h : B4 x ≤ 1048576) : Sf x := by
 have h0 := h
 unfold B4 at h0
 exact ⟨by omega, trivial⟩
def M5 (x : Ao) : Prop := x.fM.fBody.size ≤ 1048576 ∧ True
theorem Ue (x : Ao) (h : A0 x ≤ 1048576) : M5 x := by
 have h0 := h
 unfold A0 B4 at h0
 exact ⟨by omega, trivial⟩
def Aib (x : B5) : Prop := (x.fFl.length ≤ 1048576 ∧ ∀ y ∈ x.fFl, M5 y) ∧ (x.fQ.length ≤ 1048576 ∧ ∀ y ∈ x.fQ, Sf y) ∧ True
theorem Zg (x : B5) (h : Fi x ≤ 1048576) : Aib x := by
 have e0 := Jr A0 x.fFl
 have e1 := Jr B4 x.fQ
 have h0 := h
 unfold Fi at h0
 exact ⟨Acd M5 Ue _ (by omega), Acd Sf R8 _ (by omega), trivial⟩
def Zp (x : Cs) : Prop := (x.fO.fFl.length ≤ 1048576 ∧ ∀ y ∈ x.fO.fFl, M5 y) ∧ (x.fO.fQ.length ≤ 1048576 ∧ ∀ y ∈ x.fO.fQ, Sf y) ∧ x.fIn.length ≤ 1048576 ∧ True
theorem Aa8 (x : Cs) (h : I9 x ≤ 1048576) : Zp x := by
 have e0 := Jr A0 x.fO.fFl
 have e1 := Jr B4 x.fO.fQ
 have h0 := h
 unfold I9 Fi at h0
 exact ⟨Acd M5 Ue _ (by omega), Acd Sf R8 _ (by omega), by omega, trivial⟩
def Ad0 (x : Am) : Prop := (x.fL.length ≤ 1048576 ∧ ∀ y ∈ x.fL, Zp y) ∧ True
theorem AaY (x : Am) (h : Iw x ≤ 1048576) : Ad0 x := by
 have e0 := Jr I9 x.fL
 have h0 := h
 unfold Iw at h0
 exact ⟨Acd Zp Aa8 _ (by omega), trivial⟩
end
section
open Go
def Ah7 : Da := ⟨⟨#[]⟩, ⟨#[]⟩, 0, false⟩
def Ax (l : List Da) : Da := l.headD Ah7
def Agq (l : List Da) : Bool := !l.isEmpty
theorem Xg {ty : Nat} {H : Ac} {ts : List Nat} {raw cells : List AV} {ids : List Nat} (hts : E0.tp ty = some ts) (h : Cm (B6 At E0.tp H 7) ts raw = some (cells, ids)) (hn : ids.Nodup) : Bc At E0.tp ty H (.tup raw) = some (.tup cells) := by
 rw [Bc, Ft, hts, Option.bind_some, h, Option.bind_some, Option.bind_some, if_pos hn]
theorem Ah8 {H : Ac} {t0 t1 t2 : Nat} {x0 x1 : AV} {v : Value} {a b : AV × List Nat} (h0 : B6 At E0.tp H 7 t0 x0 = some a) (h1 : B6 At E0.tp H 7 t1 x1 = some b) : Cm (B6 At E0.tp H 7) [t0, t1, t2] [x0, x1, .sc v] = some ([a.1, b.1, .sc v], a.2 ++ b.2) := by
 simp only [Cm, h0, h1, Gt, Option.bind_some, List.append_nil]
theorem Agw (H : Ac) : B6 At E0.tp H 7 73 (.agg Hs) = some (.agg (Au Ah7), []) := by
 obtain ⟨i, hi, hc⟩ := Pf
 rw [D4, hi, Option.bind_some, hc]
 rfl
theorem Ac3 {H : Ac} {raw cells : List AV} {ids : List Nat} (h : Cm (B6 At E0.tp H 6) Hf raw = some (cells, ids)) : B6 At E0.tp H 7 73 (.agg raw) = some (.agg cells, ids) := by
 obtain ⟨i, hi, hc⟩ := Pf
 rw [D4, hi, Option.bind_some, hc, h]
 rfl
theorem AaR (n : Nat) (hn : 1048576 < n) (x0 : List Da) (k0 : x0.length ≤ 9223372036854775807 ∧ ∀ z ∈ x0, Dg z) (b0 : F2 B4 x0 ≤ 1048576) : Di E0 (n + 4) 207 161 [Al Au x0] = some (.tup [Al Au x0.tail, .agg (Au (Ax x0)), .sc (.bool (Agq x0))]) := by
 have hlen : x0.length ≤ 1048576 := by have := Jr B4 x0; omega
 have hs : ∀ x ∈ x0, x.fBody.size ≤ 1048576 := by
  intro x hx
  have h1 := Jr B4 x0
  have h2 := Pb (wt := B4) hx
  have h3 : B4 x = x.fTopic.size + (x.fBody.size + 0) := rfl
  omega
 rw [Bu, Ae0, f161]
 simp only [Cj, Ca, A9, Aw, Be, A6, A4, D1, Cc, Ie, List.length_nil, List.nil_append]
 have hz : ([⟨[.sc (.string ⟨#[]⟩), .nl, .sc (.int .i64 0), .sc (.bool false)], true, true⟩] : Ac) = [⟨Hs, true, true⟩] := rfl
 rw [hz]
 refine Do ?_
 cases x0 with
 | nil =>
  refine Bf (v := .sc (.bool true)) (fun k => rfl) ?_
  refine Fo rfl ?_
  refine Lr (cs := Hs) rfl ?_
  rw [En 4 0 0 _ ⟨Hs, true, true⟩ Hs _ _ rfl rfl rfl (by decide) rfl]
  refine F0 (ds := Hs) (cs := Hs) rfl (Nat.le_refl _) rfl ?_
  exact Xg rfl (Ah8 (a := (.ro 0 [], [])) rfl (Agw _)) List.nodup_nil
 | cons m l =>
  have hm : m.fBody.size ≤ 1048576 := hs m List.mem_cons_self
  refine Bf (v := .sc (.bool false)) (fun k => ?_) ?_
  ·show k (.sc (.bool (((m :: l).length : Int) == 0))) = _
   have e : (((m :: l).length : Int) == 0) = false := by
    rw [beq_eq_false_iff_ne]
    intro h
    have : (m :: l).length = l.length + 1 := rfl
    omega
   rw [e]
  refine Gb rfl ?_
  have hsl := Zd Eu (m :: l) 1 (by simp) (β := AV)
  have hsl' : ∀ k : AV → Option AV, Jz 4 (Al Au (m :: l)) (some (.sc (.int .i64 1))) none k = k (Al Au l) := fun k => hsl k
  rw [hsl']
  have hel := fun k => Oy (β := AV) Eu (by decide) [] m l k
  simp only [List.nil_append, List.length_nil, Int.natCast_zero] at hel
  rw [hel, Xf 4 _ _ _ _ (Eu m)]
  rw [El (vs := [Al Au l]) rfl (Cl (Ik _ _ _) E6) (Oq n hn l (by simp at hlen; omega) fun x hx => hs x (List.mem_cons_of_mem _ hx))]
  rw [El (vs := [.agg (Au m)]) rfl (Cl (F7 _ (Hg m)) E6) (Q7 (n + 2) m hm)]
  obtain ⟨i, hi, hc⟩ := Pf
  rw [Fq, hi, Option.getD_some, hc]
  simp only
  generalize hA : Bo At E0.tp ([⟨Hs, true, true⟩] : Ac).length 79 (Al Au l) = A
  generalize hB : Bw At E0.tp ([⟨Hs, true, true⟩] ++ A.2 : Ac).length Hf (Au m) = B
  have hBl : B.1.length = 4 := by rw [← hB, In]; rfl
  have hBc : Cx (.agg B.1) = some B.1 := by
   show (if _ then _ else none) = _
   rw [if_pos (by rw [← hB]; exact Iq _ _ _ (Hg m))]
  have hsp : Cg Hs 0 B.1 = B.1 := by
   unfold Cg
   rw [List.take_zero, List.nil_append, List.drop_of_length_le (by rw [hBl]; decide), List.append_nil]
  rw [En 4 0 0 _ ⟨Hs, true, true⟩ B.1 _ _ rfl hBc hBl (by decide) rfl]
  simp only [hsp]
  have hH : ([⟨Hs, true, true⟩] ++ A.2 ++ B.2 : Ac).set 0 ⟨B.1, true, true⟩ = ⟨B.1, true, true⟩ :: (A.2 ++ B.2) := by simp
  rw [hH]
  refine F0 (ds := B.1) (cs := B.1) rfl (by omega) (by rw [List.drop_zero, ← hBl, List.take_length]) ?_
  have hA1 : A = Bo At E0.tp 1 79 (Al Au l) := hA.symm
  have hNB : ([⟨Hs, true, true⟩] ++ A.2 : Ac).length = 1 + A.2.length := by simp; omega
  rw [hNB] at hB
  have o1 : B6 At E0.tp (⟨B.1, true, true⟩ :: (A.2 ++ B.2)) 7 79 A.1 = some (Al Au l, List.range' 1 A.2.length) := by
   rw [hA1]
   refine F1 7 _ _ 1 (Fk (d := 6) Eu Ku (H7 4) l) ?_
   have := Km [⟨B.1, true, true⟩] (Bo At E0.tp 1 79 (Al Au l)).2 B.2
   exact this
  have o2 : Cm (B6 At E0.tp (⟨B.1, true, true⟩ :: (A.2 ++ B.2)) 6) Hf B.1 = some (Au m, List.range' (1 + A.2.length) B.2.length) := by
   rw [← hB]
   refine Il (fun ty t N h h' _ => F1 6 ty t N h h') Hf (Au m) (1 + A.2.length) (H7 4 m) ?_ (E4 _ _ _)
   have := Li (⟨B.1, true, true⟩ :: A.2) B.2
   rw [List.length_cons, Nat.add_comm] at this
   rw [hB]
   exact this
  refine Xg rfl (Ah8 o1 (Ac3 o2)) ?_
  have := List.range'_append (s := 1) (m := A.2.length) (n := B.2.length) (step := 1)
  rw [Nat.one_mul] at this
  rw [this]
  exact List.nodup_range'
theorem Xu (x0 : List Da) (b0 : F2 B4 x0 ≤ 1048576) : B4 (Ax x0) ≤ 1048576 ∧ Sf (Ax x0) := by
 have h : B4 (Ax x0) ≤ 1048576 := by
  cases x0 with
  | nil => decide
  | cons m l =>
   have : F2 B4 (m :: l) = 1 + B4 m + F2 B4 l := rfl
   show B4 m ≤ _
   omega
 exact ⟨h, R8 _ h⟩
end
section
open Go
def Q1 : B8 := ⟨0, false, 0, false, 0, ⟨#[]⟩, ⟨#[]⟩, ⟨#[]⟩, 0, false, 0, false, ⟨#[]⟩, ⟨#[]⟩, 0, false, false, ⟨#[]⟩, false, ⟨#[]⟩, 0, false, [], [], []⟩
end
section
open Go
def Cv (m : Da) (i : Int) (d : Bool) : B8 := ⟨3, d, m.fQos, m.fRetain, i, m.fTopic, m.fBody, ⟨#[]⟩, 0, false, 0, false, ⟨#[]⟩, ⟨#[]⟩, 0, false, false, ⟨#[]⟩, false, ⟨#[]⟩, 0, false, [], [], []⟩
theorem Ww (n : Nat) (hn : 1048576 < n) (m : Da) (i : Int) (d : Bool) (hs : m.fBody.size ≤ 1048576) : Di E0 (n + 1) 78 162 [.agg (Au m), .sc (.int .i64 i), .sc (.bool d)] = some (.agg (C7 (Cv m i d))) := by
 rw [Bu, Ae3, f162]
 refine Iu (G := (· = some (.agg (C7 (Cv m i d))))) ?_
 try simp only [De, Cj, Bi, A4, A6, Be, Cy]
 have s0 : Sep [] [] := Kd
 refine Qh s0 (H8 (Hg _)) fun i1 H s2 => ?_
 refine C8 s2 fun i3 H s4 => ?_
 refine Af (o' := 2) rfl ?_
 refine Ay (c := .sc (.int .i64 m.fQos)) s4 A8 rfl ?_
 refine Af (o' := 3) rfl ?_
 refine Ay (c := .sc (.bool m.fRetain)) s4 A8 rfl ?_
 refine Af (o' := 0) rfl ?_
 refine Ay (c := .sc (.string m.fTopic)) s4 A8 rfl ?_
 refine Af (o' := 1) rfl ?_
 refine Ay (c := Bj m.fBody) s4 A8 rfl ?_
 refine Af7 s4 (by omega) fun x5 H lx5 s6 => ?_
 refine Bk (cs := [.sc (.int .i64 3), .sc (.bool d), .sc (.int .i64 m.fQos), .sc (.bool m.fRetain), .sc (.int .i64 i), .sc (.string m.fTopic), x5, .sc (.string (⟨#[]⟩)), .sc (.int .i64 0), .sc (.bool false), .sc (.int .i64 0), .sc (.bool false), .sc (.string (⟨#[]⟩)), .nl, .sc (.int .i64 0), .sc (.bool false), .sc (.bool false), .sc (.string (⟨#[]⟩)), .sc (.bool false), .nl, .sc (.int .i64 0), .sc (.bool false), .nl, .nl, .nl]) (Ei (z' := [.sc (.int .i64 3), .sc (.bool false), .sc (.int .i64 0), .sc (.bool false), .sc (.int .i64 0), .sc (.string (⟨#[]⟩)), .nl, .sc (.string (⟨#[]⟩)), .sc (.int .i64 0), .sc (.bool false), .sc (.int .i64 0), .sc (.bool false), .sc (.string (⟨#[]⟩)), .nl, .sc (.int .i64 0), .sc (.bool false), .sc (.bool false), .sc (.string (⟨#[]⟩)), .sc (.bool false), .nl, .sc (.int .i64 0), .sc (.bool false), .nl, .nl, .nl]) (Ak rfl) rfl (A7 rfl) rfl (Ei (z' := [.sc (.int .i64 3), .sc (.bool d), .sc (.int .i64 0), .sc (.bool false), .sc (.int .i64 0), .sc (.string (⟨#[]⟩)), .nl, .sc (.string (⟨#[]⟩)), .sc (.int .i64 0), .sc (.bool false), .sc (.int .i64 0), .sc (.bool false), .sc (.string (⟨#[]⟩)), .nl, .sc (.int .i64 0), .sc (.bool false), .sc (.bool false), .sc (.string (⟨#[]⟩)), .sc (.bool false), .nl, .sc (.int .i64 0), .sc (.bool false), .nl, .nl, .nl]) (Ak rfl) rfl (A7 rfl) rfl (Ei (z' := [.sc (.int .i64 3), .sc (.bool d), .sc (.int .i64 m.fQos), .sc (.bool false), .sc (.int .i64 0), .sc (.string (⟨#[]⟩)), .nl, .sc (.string (⟨#[]⟩)), .sc (.int .i64 0), .sc (.bool false), .sc (.int .i64 0), .sc (.bool false), .sc (.string (⟨#[]⟩)), .nl, .sc (.int .i64 0), .sc (.bool false), .sc (.bool false), .sc (.string (⟨#[]⟩)), .sc (.bool false), .nl, .sc (.int .i64 0), .sc (.bool false), .nl, .nl, .nl]) (Ak rfl) rfl (A7 rfl) rfl (Ei (z' := [.sc (.int .i64 3), .sc (.bool d), .sc (.int .i64 m.fQos), .sc (.bool m.fRetain), .sc (.int .i64 0), .sc (.string (⟨#[]⟩)), .nl, .sc (.string (⟨#[]⟩)), .sc (.int .i64 0), .sc (.bool false), .sc (.int .i64 0), .sc (.bool false), .sc (.string (⟨#[]⟩)), .nl, .sc (.int .i64 0), .sc (.bool false), .sc (.bool false), .sc (.string (⟨#[]⟩)), .sc (.bool false), .nl, .sc (.int .i64 0), .sc (.bool false), .nl, .nl, .nl]) (Ak rfl) rfl (A7 rfl) rfl (Ei (z' := [.sc (.int .i64 3), .sc (.bool d), .sc (.int .i64 m.fQos), .sc (.bool m.fRetain), .sc (.int .i64 i), .sc (.string (⟨#[]⟩)), .nl, .sc (.string (⟨#[]⟩)), .sc (.int .i64 0), .sc (.bool false), .sc (.int .i64 0), .sc (.bool false), .sc (.string (⟨#[]⟩)), .nl, .sc (.int .i64 0), .sc (.bool false), .sc (.bool false), .sc (.string (⟨#[]⟩)), .sc (.bool false), .nl, .sc (.int .i64 0), .sc (.bool false), .nl, .nl, .nl]) (Ak rfl) rfl (A7 rfl) rfl (Ei (z' := [.sc (.int .i64 3), .sc (.bool d), .sc (.int .i64 m.fQos), .sc (.bool m.fRetain), .sc (.int .i64 i), .sc (.string m.fTopic), .nl, .sc (.string (⟨#[]⟩)), .sc (.int .i64 0), .sc (.bool false), .sc (.int .i64 0), .sc (.bool false), .sc (.string (⟨#[]⟩)), .nl, .sc (.int .i64 0), .sc (.bool false), .sc (.bool false), .sc (.string (⟨#[]⟩)), .sc (.bool false), .nl, .sc (.int .i64 0), .sc (.bool false), .nl, .nl, .nl]) (Ak rfl) rfl (A7 rfl) rfl (Ei (z' := [.sc (.int .i64 3), .sc (.bool d), .sc (.int .i64 m.fQos), .sc (.bool m.fRetain), .sc (.int .i64 i), .sc (.string m.fTopic), x5, .sc (.string (⟨#[]⟩)), .sc (.int .i64 0), .sc (.bool false), .sc (.int .i64 0), .sc (.bool false), .sc (.string (⟨#[]⟩)), .nl, .sc (.int .i64 0), .sc (.bool false), .sc (.bool false), .sc (.string (⟨#[]⟩)), .sc (.bool false), .nl, .sc (.int .i64 0), .sc (.bool false), .nl, .nl, .nl]) (Ak lx5) rfl (A7 rfl) rfl (rfl)))))))) ?_
 refine A3 (cs' := [.sc (.int .i64 3), .sc (.bool d), .sc (.int .i64 m.fQos), .sc (.bool m.fRetain), .sc (.int .i64 i), .sc (.string m.fTopic), x5, .sc (.string (⟨#[]⟩)), .sc (.int .i64 0), .sc (.bool false), .sc (.int .i64 0), .sc (.bool false), .sc (.string (⟨#[]⟩)), .nl, .sc (.int .i64 0), .sc (.bool false), .sc (.bool false), .sc (.string (⟨#[]⟩)), .sc (.bool false), .nl, .sc (.int .i64 0), .sc (.bool false), .nl, .nl, .nl]) s6 A8 (Ad (Aa rfl (Aa rfl (Aa rfl (Aa rfl (Aa rfl (Aa rfl (Aa lx5 (Aa rfl (Aa rfl (Aa rfl (Aa rfl (Aa rfl (Aa rfl (Aa rfl (Aa rfl (Aa rfl (Aa rfl (Aa rfl (Aa rfl (Aa rfl (Aa rfl (Aa rfl (Aa rfl (Aa rfl (Aa rfl rfl)))))))))))))))))))))))))) rfl (A7 rfl) rfl fun H s7 => ?_
 refine Aj s7 (.here) rfl ?_
 refine Dr (Nq s7 ⟨_, rfl, rfl⟩ (.sc (.sc (.sc (.sc (.sc (.sc (.own A8 (.sc (.sc (.sc (.sc (.sc (.sc (.nl (.sc (.sc (.sc (.sc (.sc (.nl (.sc (.sc (.nl (.nl (.nl .nil))))))))))))))))))))))))) ⟨trivial, ⟨trivial, ⟨trivial, ⟨trivial, ⟨trivial, ⟨trivial, ⟨(Bp (Jf m.fBody) (by decide)), ⟨trivial, ⟨trivial, ⟨trivial, ⟨trivial, ⟨trivial, ⟨trivial, ⟨(Ej ⟨_, _, rfl, rfl⟩), ⟨trivial, ⟨trivial, ⟨trivial, ⟨trivial, ⟨trivial, ⟨(Ej ⟨_, _, rfl, rfl⟩), ⟨trivial, ⟨trivial, ⟨(Ej ⟨_, _, rfl, rfl⟩), ⟨(Ej ⟨_, _, rfl, rfl⟩), ⟨(Ej ⟨_, _, rfl, rfl⟩), trivial⟩⟩⟩⟩⟩⟩⟩⟩⟩⟩⟩⟩⟩⟩⟩⟩⟩⟩⟩⟩⟩⟩⟩⟩⟩) ?_
 have e8 : Cv m i d = (⟨3, d, m.fQos, m.fRetain, i, m.fTopic, m.fBody, ⟨#[]⟩, 0, false, 0, false, ⟨#[]⟩, ⟨#[]⟩, 0, false, false, ⟨#[]⟩, false, ⟨#[]⟩, 0, false, [], [], []⟩ : B8) := by
  clear s0 s2 s4 s6 s7
  first | assumption | (simp only [Cv, if_true, if_false, Bool.false_eq_true]; first | done | rfl)
 rw [e8]
 first | done | rfl
end
section
open Go
def nx (x : Int) : Int := x % 65535 + 1
def Ks (used : List Int) : Nat → Int → Int × Bool
 | 0, _ => (0, false)
 | k + 1, x => if used.contains (nx x) then Ks used k (nx x) else (nx x, true)
def orb : Nat → Int → List Int
 | 0, _ => []
 | k + 1, x => nx x :: orb k (nx x)
theorem Aac : ∀ (k : Nat) (x : Int), (orb k x).length = k
 | 0, _ => rfl
 | k + 1, x => by rw [orb, List.length_cons, Aac k]
theorem AaB : ∀ (k : Nat) (x y : Int), 0 ≤ x → y ∈ orb k x → ∃ i : Nat, i < k ∧ y = (x + i) % 65535 + 1
 | 0, _, _, _, h => by cases h
 | k + 1, x, y, h0, h => by
  rcases List.mem_cons.1 h with rfl | h
  ·exact ⟨0, by omega, by unfold nx; simp⟩
  ·obtain ⟨i, hi, rfl⟩ := AaB k (nx x) y (by unfold nx; omega) h
   refine ⟨i + 1, by omega, ?_⟩
   unfold nx
   omega
theorem T9 : ∀ (k : Nat) (x : Int), 0 ≤ x → k ≤ 65535 → (orb k x).Nodup
 | 0, _, _, _ => List.nodup_nil
 | k + 1, x, h0, hk => by
  rw [orb, List.nodup_cons]
  refine ⟨fun hm => ?_, T9 k _ (by unfold nx; omega) (by omega)⟩
  obtain ⟨i, hi, e⟩ := AaB k (nx x) (nx x) (by unfold nx; omega) hm
  unfold nx at e
  omega
theorem Ud : ∀ (used : List Int) (k : Nat) (x : Int), (Ks used k x).2 = false → ∀ y ∈ orb k x, y ∈ used
 | used, 0, _, _, y, hy => by cases hy
 | used, k + 1, x, h, y, hy => by
  rw [Ks] at h
  split at h
  ·rename_i hc
   rcases List.mem_cons.1 hy with rfl | hy
   ·exact List.contains_iff_mem.1 hc
   ·exact Ud used k _ h y hy
  ·cases h
theorem Ub : ∀ (used : List Int) (k j : Nat) (x : Int), (Ks used k x).2 = true → Ks used (k + j) x = Ks used k x
 | used, 0, _, _, h => by cases h
 | used, k + 1, j, x, h => by
  rw [show k + 1 + j = (k + j) + 1 by omega, Ks, Ks]
  rw [Ks] at h
  split
  ·rename_i hc
   rw [if_pos hc] at h
   exact Ub used k j _ h
  ·rfl
theorem Ts : ∀ (l u : List Int), l.Nodup → (∀ y ∈ l, y ∈ u) → l.length ≤ u.length
 | [], u, _, _ => Nat.zero_le _
 | x :: l, u, h, hs => by
  rw [List.nodup_cons] at h
  have hx : x ∈ u := hs x List.mem_cons_self
  have h1 := Ts l (u.erase x) h.2 fun y hy => (List.mem_erase_of_ne (fun (e : y = x) => h.1 (e ▸ hy))).2 (hs y (List.mem_cons_of_mem _ hy))
  rw [List.length_erase_of_mem hx] at h1
  have := List.length_pos_of_mem hx
  rw [List.length_cons]
  omega
theorem Afa (used : List Int) (x : Int) (h0 : 0 ≤ x) : Ks used 65535 x = Ks used (min (used.length + 1) 65535) x := by
 by_cases h : used.length + 1 < 65535
 ·rw [Nat.min_eq_left (by omega)]
  cases hs : (Ks used (used.length + 1) x).2
  ·exfalso
   have h1 := Ts _ used (T9 (used.length + 1) x h0 (by omega)) (Ud used _ x hs)
   rw [Aac] at h1
   omega
  ·have := Ub used (used.length + 1) (65535 - (used.length + 1)) x hs
   rw [show used.length + 1 + (65535 - (used.length + 1)) = 65535 by omega] at this
   exact this
 ·rw [Nat.min_eq_right (by omega)]
def Cu (last : Int) (used : List Int) : Int × Bool := if 0 ≤ last ∧ last ≤ 65535 then Ks used 65535 last else (0, false)
end
section
open Go
variable {β : Type} {n : Nat} {r : Option β}
end
section
open Go
theorem Tp (n : Nat) (u : List Int) (hu : u.length ≤ 1048576) (z : Int) (k : AV → Ac → Option AV) : ∀ (t pre : List Int) (m : Nat) (i : Int) (H : Ac), u = pre ++ t → i = ((pre.length : Nat) : Int) → t.length < m → Ln (PR n AV) n k m (Dn u) (.sc (.int .i64 z)) (.sc (.int .i64 i)) H = k (.sc (.bool (t.contains z))) H
 | [], pre, m + 1, i, H, he, hi, hm => by
  rw [List.append_nil] at he
  subst he
  rw [Ln]
  simp only [Ca, A9, Aw]
  refine Do ?_
  refine Bf (v := .sc (.bool (decide (i < (u.length : Nat))))) (fun k => rfl) ?_
  refine Gb (by simp [hi]) ?_
  rfl
 | y :: t, pre, m + 1, i, H, he, hi, hm => by
  have hlt : pre.length < u.length := by rw [he]; simp
  rw [Ln]
  simp only [Ca, A9, Aw, Cc, A4]
  refine Do ?_
  refine Bf (v := .sc (.bool (decide (i < (u.length : Nat))))) (fun k => rfl) ?_
  refine Fo (by simp [hi]; omega) ?_
  refine (show Gd (· = k (.sc (.bool ((y :: t).contains z))) H) _ from ?_)
  refine Acq hi he ?_
  refine Rn (c := .sc (.int .i64 y)) rfl ?_
  refine Bv ?_
  by_cases hy : y = z
  ·refine C1 (by simpa using hy) ?_
   show k _ H = k _ H
   simp [hy]
  ·refine B3 (by simpa using hy) ?_
   refine Eo (by omega) (by omega) ?_
   have ih := Tp n u hu z k t (pre ++ [y]) m (i + 1) H (by rw [he]; simp) (by rw [hi]; simp) (by simpa using hm)
   refine ih.trans ?_
   have e : (y :: t).contains z = t.contains z := by
    rw [List.contains_cons]
    simp [Ne.symm hy]
   rw [e]
theorem Ah0 (n ty : Nat) (hn : 1048576 < n) (u : List Int) (hu : u.length ≤ 1048576) (z : Int) : Di E0 (n + 1) ty 177 [Dn u, .sc (.int .i64 z)] = some (.sc (.bool (u.contains z))) := by
 rw [Bu, AeP, f177]
 exact Tp n u hu z _ u [] n 0 [] rfl rfl (by omega)
theorem Ah1 (x : Int) (h0 : 0 ≤ x) (h1 : x ≤ 65535) : nx x = if x + 1 > 65535 then 1 else x + 1 := by
 unfold nx
 split <;> omega
theorem Zk (n : Nat) (hn : 1048576 < n) (u : List Int) (hu : u.length ≤ 1048576) (k : AV → Ac → Option AV) (H : Ac) : ∀ (j m : Nat) (x c : Int), 0 ≤ c → c + j = min ((u.length : Int) + 1) 65535 → j < m → 0 ≤ x → x ≤ 65535 →
  Kk (PR (n + 1) AV) (n + 1) k m (Dn u) (.sc (.int .i64 x)) (.sc (.int .i64 c)) H = k (.tup [.sc (.int .i64 (Ks u j x).1), .sc (.bool (Ks u j x).2)]) H := by
 intro j
 induction j with
 | zero =>
  intro m x c h0 hc hm hx0 hx1
  obtain ⟨m, rfl⟩ : ∃ m', m = m' + 1 := ⟨m - 1, by omega⟩
  rw [Kk]
  simp only [Ca, A9, Aw, Bx, Ch]
  refine Do ?_
  refine Bf (v := .sc (.bool (decide (c ≤ (u.length : Nat))))) (fun k => rfl) ?_
  by_cases hl : c ≤ (u.length : Nat)
  ·refine Bb (by simpa using hl) ?_
   refine Bb (by simpa using hl) ?_
   refine Bf (v := .sc (.bool (decide (c < 65535)))) (fun k => rfl) ?_
   refine On (by simpa using hl) ?_
   refine Gb (by simp; omega) ?_
   rfl
  ·refine Bd (by simpa using hl) ?_
   refine Bd (by simpa using hl) ?_
   refine P1 (by simpa using hl) ?_
   refine Gb rfl ?_
   rfl
 | succ j ih =>
  intro m x c h0 hc hm hx0 hx1
  obtain ⟨m, rfl⟩ : ∃ m', m = m' + 1 := ⟨m - 1, by omega⟩
  rw [Kk]
  simp only [Ca, A9, Aw, Bx, Ch, Ew]
  refine Do ?_
  refine Bf (v := .sc (.bool (decide (c ≤ (u.length : Nat))))) (fun k => rfl) ?_
  have hl : c ≤ (u.length : Nat) := by omega
  refine Bb (by simpa using hl) ?_
  refine Bb (by simpa using hl) ?_
  refine Bf (v := .sc (.bool (decide (c < 65535)))) (fun k => rfl) ?_
  refine On (by simpa using hl) ?_
  refine Fo (by simp; omega) ?_
  refine Bf (v := .sc (.int .i64 (x + 1))) (fun k => by rw [Qo, Fe _ (by omega) (by omega)]) ?_
  refine Bf (v := .sc (.bool (decide (x + 1 > 65535)))) (fun k => rfl) ?_
  refine Xw ?_
  have hnx := Ah1 x hx0 hx1
  have hr : 0 ≤ nx x ∧ nx x ≤ 65535 := by
   unfold nx
   omega
  have tail : ∀ y, y = nx x → ((PR (n + 1) AV).call 4 (.fn 177 [] []) [Dn u, .sc (.int .i64 y)] H fun t28 H => pUn .not t28 fun t29 => Ih t29 (k (Cq [.sc (.int .i64 y), .sc (.bool true)]) H) (Fh .add (.sc (.int .i64 c)) (.sc (.int .i64 1)) fun t21 => Kk (PR (n + 1) AV) (n + 1) k m (Dn u) (.sc (.int .i64 y)) t21 H)) = k (.tup [.sc (.int .i64 (Ks u (j + 1) x).1), .sc (.bool (Ks u (j + 1) x).2)]) H := by
   rintro y rfl
   refine F5 rfl (Cl (Ik _ _ _) (Cl (Ed _ _) E6)) (Ah0 n _ hn u hu (nx x)) ?_
   refine Ii ?_
   rw [Ks]
   cases hh : u.contains (nx x)
   ·refine Fo rfl ?_
    rfl
   ·refine Gb rfl ?_
    refine Bf (v := .sc (.int .i64 (c + 1))) (fun k => by rw [Qo, Fe _ (by omega) (by omega)]) ?_
    exact ih m (nx x) (c + 1) (by omega) (by omega) (by omega) hr.1 hr.2
  by_cases hg : x + 1 > 65535
  ·refine Fo (by simpa using hg) ?_
   rw [if_pos hg] at hnx
   exact tail 1 hnx.symm
  ·refine Gb (by simpa using hg) ?_
   rw [if_neg hg] at hnx
   exact tail (x + 1) hnx.symm
theorem Aah {ty : Nat} {H : Ac} {t0 t1 : Nat} {a b : Value} (hts : E0.tp ty = some [t0, t1]) : Bc At E0.tp ty H (.tup [.sc a, .sc b]) = some (.tup [.sc a, .sc b]) := by
 rw [Bc, Ft, hts, Option.bind_some]
 simp [Cm, Gt]
theorem Acn (n : Nat) (hn : 1048576 < n) (ty : Nat) (hty : ∃ t0 t1, E0.tp ty = some [t0, t1]) (x : Int) (u : List Int) (hu : u.length ≤ 1048576) : Di E0 (n + 2) ty 163 [.sc (.int .i64 x), Dn u] = some (.tup [.sc (.int .i64 (Cu x u).1), .sc (.bool (Cu x u).2)]) := by
 obtain ⟨t0, t1, hty⟩ := hty
 rw [Bu, Afv, f163]
 simp only [Ew, Aw]
 refine F5 rfl (Cl (Ed _ _) (Cl (Ed _ _) (Cl (Ed _ _) E6))) (Mw n _ x 0 65535) ?_
 refine Ii ?_
 unfold Cu
 by_cases h : 0 ≤ x ∧ x ≤ 65535
 ·rw [if_pos h]
  refine Gb (by simp [K0, h]) ?_
  rw [Zk n hn u hu _ _ (min (u.length + 1) 65535) (n + 1) x 0 (by omega) (by omega) (by omega) h.1 h.2, Afa u x h.1]
  exact Aah hty
 ·rw [if_neg h]
  refine Fo (by simp [K0]; omega) ?_
  exact Aah hty
end
section
open Go
theorem AiC (o : B5) (h : Fi o ≤ 1048576) : M4 o := by
 have h1 := Zg o h
 exact ⟨⟨h1.1.1, fun y hy => (h1.1.2 y hy).1⟩, ⟨h1.2.1.1, fun y hy => (h1.2.1.2 y hy).1⟩⟩
def Io (o : B5) : Bool := ((Hm o && decide ((o.fQ.length : Int) > 0)) && ((o.fQ.headD W6).fQos == 0 || decide ((o.fFl.length : Int) < 3)))
def Fv (o : B5) : Int := (Cu o.fLast (o.fFl.map (·.fId))).1
def Ah (o : B5) : B5 := if Io o then (if (Ax o.fQ).fQos = 0 then { o with fQ := o.fQ.tail } else ⟨Fv o, o.fFl ++ [⟨Fv o, Ax o.fQ, (Ax o.fQ).fQos⟩], o.fQ.tail⟩) else o
def Cf (o : B5) : B8 := if Io o then (if (Ax o.fQ).fQos = 0 then Cv (Ax o.fQ) 0 false else Cv (Ax o.fQ) (Fv o) false) else Q1
theorem AhI (o : B5) (b : Fi o ≤ 1048576) : F2 B4 o.fQ ≤ 1048576 := by
 unfold Fi at b
 omega
theorem Yx (o : B5) (b : Fi o ≤ 1048576) : o.fFl.length ≤ 1048576 := (Xz o b).1.1
theorem S1 (o : B5) (b : Fi o ≤ 1048576) : (Ax o.fQ).fBody.size ≤ 1048576 := (Xu o.fQ (AhI o b)).2.1
theorem Lc (n : Nat) (hn : 1048576 < n) (x0 : B5) (k0 : Rj x0) (b0 : Fi x0 ≤ 1048576) (h13 : (Io x0) = true) (h21 : (decide (((Ax x0.fQ).fQos) = 0)) = false)  : ∀ (t pre : List Ao) (m : Nat) (i : Int) (i10 i17 i5 i3 i1 : Nat) (a5 x14 x15 x8 x7 : AV) (H : Ac), x0.fFl = pre ++ t → i = ((pre.length : Nat) : Int) → t.length < m → Aq a5 = true → Aq x14 = true → Aq x15 = true → Aq x8 = true → Aq x7 = true → Sep H [.own a5 53 (Dn (pre.map (·.fId))), .blk i10 [.sc (.int .i64 x0.fLast), x7, x15] true, .blk i17 [.sc (.string ((Ax x0.fQ).fTopic)), x14, .sc (.int .i64 ((Ax x0.fQ).fQos)), .sc (.bool (Ax x0.fQ).fRetain)] true, .own x14 22 (Bj ((Ax x0.fQ).fBody)), .own x15 79 (Al Au x0.fQ.tail), .own x8 79 (Al Au x0.fQ), .own x7 113 (Al Az x0.fFl), .blk i5 [.sc (.int .i64 0), .sc (.bool false), .sc (.int .i64 0), .sc (.bool false), .sc (.int .i64 0), .sc (.string (⟨#[]⟩)), .nl, .sc (.string (⟨#[]⟩)), .sc (.int .i64 0), .sc (.bool false), .sc (.int .i64 0), .sc (.bool false), .sc (.string (⟨#[]⟩)), .nl, .sc (.int .i64 0), .sc (.bool false), .sc (.bool false), .sc (.string (⟨#[]⟩)), .sc (.bool false), .nl, .sc (.int .i64 0), .sc (.bool false), .nl, .nl, .nl] true, .blk i3 [.sc (.int .i64 0), .nl, .nl] true, .blk i1 (Bg x0) true] → Gd (· = some (.tup [.agg (Bg (Ah x0)), .agg (C7 (Cf x0)), .sc (.bool (Io x0))])) (L5 (PR (n + 12) AV) (n + 12) (fun x H => Bc At E0.tp 191 H x) m (.ptr i1 0) (.ptr i3 0) (.ptr i5 0) (.ptr i10 0) (.ptr i17 0) (a5) (.sc (.int .i64 i)) H)
 | [], pre, m + 1, i, i10, i17, i5, i3, i1, a5, x14, x15, x8, x7, H, he, hi, hm, la5, lx14, lx15, lx8, lx7, s0 => by
  obtain rfl : pre = x0.fFl := by simpa using he.symm
  have hfl := Yx x0 b0
  have hpb := S1 x0 b0
  rw [L5]
  try simp only [Bm, Bi, A4, A6, A9, Aw, Ca, Cc, Be, Cy, Fc]
  refine Af (o' := 1) rfl ?_
  refine Ay (c := Al Az x0.fFl) s0 D6 rfl ?_
  refine Ox ?_
  refine Hw ?_
  refine B3 (by simp [hi]) ?_
  refine Af (o' := 0) rfl ?_
  refine Ay (c := .sc (.int .i64 x0.fLast)) s0 D6 rfl ?_
  have c201 := Acn (n + 10) (by omega) 210 ⟨_, _, rfl⟩ x0.fLast (x0.fFl.map (·.fId)) (by rw [List.length_map]; omega)
  refine Es s0 rfl (.cons .sc (.cons (.own (by decide) (.here)) .nil)) (c201) rfl (Bz (Bz Cp)) ?_
  rintro _ _ H ⟨_, rfl, ⟨_, rfl, ⟨rfl, rfl⟩⟩⟩ s202
  simp only [List.nil_append] at s202
  refine Cn (v := .sc (.int .i64 ((Cu x0.fLast (x0.fFl.map (·.fId))).1))) rfl ?_
  refine Cn (v := .sc (.bool (Cu x0.fLast (x0.fFl.map (·.fId))).2)) rfl ?_
  refine Af (o' := 0) rfl ?_
  refine A3 (cs' := [.sc (.int .i64 ((Cu x0.fLast (x0.fFl.map (·.fId))).1)), x7, x15]) s202 A8 (Ak rfl) rfl (A7 rfl) rfl fun H s203 => ?_
  refine Af (o' := 1) rfl ?_
  refine Ay (c := x7) s203 (.here) rfl ?_
  refine Aj s203 Ci rfl ?_
  refine Af (o' := 2) rfl ?_
  refine Ay (c := .sc (.int .i64 ((Ax x0.fQ).fQos))) s203 Ci rfl ?_
  refine Bk (cs := [.sc (.int .i64 ((Cu x0.fLast (x0.fFl.map (·.fId))).1)), .sc (.string ((Ax x0.fQ).fTopic)), x14, .sc (.int .i64 ((Ax x0.fQ).fQos)), .sc (.bool (Ax x0.fQ).fRetain), .sc (.int .i64 ((Ax x0.fQ).fQos))]) (Ei (z' := [.sc (.int .i64 ((Cu x0.fLast (x0.fFl.map (·.fId))).1)), .sc (.string (⟨#[]⟩)), .nl, .sc (.int .i64 0), .sc (.bool false), .sc (.int .i64 0)]) (Ak rfl) rfl (A7 rfl) rfl (Ei (z' := [.sc (.int .i64 ((Cu x0.fLast (x0.fFl.map (·.fId))).1)), .sc (.string ((Ax x0.fQ).fTopic)), x14, .sc (.int .i64 ((Ax x0.fQ).fQos)), .sc (.bool (Ax x0.fQ).fRetain), .sc (.int .i64 0)]) (Ad (Aa rfl (Aa lx14 (Aa rfl (Aa rfl rfl))))) rfl (A7 rfl) rfl (Ei (z' := [.sc (.int .i64 ((Cu x0.fLast (x0.fFl.map (·.fId))).1)), .sc (.string ((Ax x0.fQ).fTopic)), x14, .sc (.int .i64 ((Ax x0.fQ).fQos)), .sc (.bool (Ax x0.fQ).fRetain), .sc (.int .i64 ((Ax x0.fQ).fQos))]) (Ak rfl) rfl (A7 rfl) rfl (rfl)))) ?_
  refine Bk (cs := [.sc (.int .i64 ((Cu x0.fLast (x0.fFl.map (·.fId))).1)), .sc (.string ((Ax x0.fQ).fTopic)), x14, .sc (.int .i64 ((Ax x0.fQ).fQos)), .sc (.bool (Ax x0.fQ).fRetain), .sc (.int .i64 ((Ax x0.fQ).fQos))]) (Ei (z' := [.sc (.int .i64 ((Cu x0.fLast (x0.fFl.map (·.fId))).1)), .sc (.string ((Ax x0.fQ).fTopic)), x14, .sc (.int .i64 ((Ax x0.fQ).fQos)), .sc (.bool (Ax x0.fQ).fRetain), .sc (.int .i64 ((Ax x0.fQ).fQos))]) (Ad (Aa rfl (Aa rfl (Aa lx14 (Aa rfl (Aa rfl (Aa rfl rfl))))))) rfl (A7 rfl) rfl (rfl)) ?_
  refine Bl s203 fun i204 H s205 => ?_
  refine AeS (cty := [3, 9, 22, 3, 4, 3]) (e := (⟨(Cu x0.fLast (x0.fFl.map (·.fId))).1, ⟨(Ax x0.fQ).fTopic, (Ax x0.fQ).fBody, (Ax x0.fQ).fQos, (Ax x0.fQ).fRetain⟩, (Ax x0.fQ).fQos⟩ : Ao)) (k := 2) s205 ⟨_, _, rfl, rfl, rfl, rfl⟩ zP7 (.here) rfl (Aa rfl (Aa rfl (Aa lx14 (Aa rfl (Aa rfl (Aa rfl rfl)))))) (.sc (.sc (.own Cz (.sc (.sc (.sc .nil)))))) ⟨trivial, ⟨trivial, ⟨(AcP ((Ax x0.fQ).fBody)), ⟨trivial, ⟨trivial, ⟨trivial, trivial⟩⟩⟩⟩⟩⟩ rfl (by omega) Br rfl rfl rfl rfl (Jf ((Ax x0.fQ).fBody)) fun x206 H lx206 s207 => ?_
  refine Af (o' := 1) rfl ?_
  refine A3 (cs' := [.sc (.int .i64 ((Cu x0.fLast (x0.fFl.map (·.fId))).1)), x206, x15]) s207 A8 (Ak lx206) rfl (A7 rfl) rfl fun H s208 => ?_
  refine Aj s208 (.here) rfl ?_
  refine Aj s208 Cz rfl ?_
  have c209 := Ww (n + 11) (by omega) (Ax x0.fQ) ((Cu x0.fLast (x0.fFl.map (·.fId))).1) false hpb
  refine E9 s208 rfl (.agg (.cons .sc (.cons (.shr (by decide) A8) (.cons .sc (.cons .sc .nil)))) (.cons .sc (.cons .sc .nil))) (c209) ⟨_, rfl, rfl⟩ (Hr _) ?_
  rintro _ _ H ⟨x210, x211, x212, x213, x214, x215, lx210, lx211, lx212, lx213, lx214, lx215, rfl, rfl⟩ s216
  simp only [List.nil_append, List.cons_append] at s216
  refine A3 (cs' := [.sc (.int .i64 ((Cu x0.fLast (x0.fFl.map (·.fId))).1)), x206, x15]) s216 AcA (Ad (Aa rfl (Aa lx206 (Aa lx15 rfl)))) rfl (A7 rfl) rfl fun H s217 => ?_
  refine A3 (cs' := [.sc (.int .i64 ((Cv (Ax x0.fQ) ((Cu x0.fLast (x0.fFl.map (·.fId))).1) false).fType)), .sc (.bool (Cv (Ax x0.fQ) ((Cu x0.fLast (x0.fFl.map (·.fId))).1) false).fDup), .sc (.int .i64 ((Cv (Ax x0.fQ) ((Cu x0.fLast (x0.fFl.map (·.fId))).1) false).fQos)), .sc (.bool (Cv (Ax x0.fQ) ((Cu x0.fLast (x0.fFl.map (·.fId))).1) false).fRetain), .sc (.int .i64 ((Cv (Ax x0.fQ) ((Cu x0.fLast (x0.fFl.map (·.fId))).1) false).fId)), .sc (.string ((Cv (Ax x0.fQ) ((Cu x0.fLast (x0.fFl.map (·.fId))).1) false).fTopic)), x210, .sc (.string ((Cv (Ax x0.fQ) ((Cu x0.fLast (x0.fFl.map (·.fId))).1) false).fClient)), .sc (.int .i64 ((Cv (Ax x0.fQ) ((Cu x0.fLast (x0.fFl.map (·.fId))).1) false).fLevel)), .sc (.bool (Cv (Ax x0.fQ) ((Cu x0.fLast (x0.fFl.map (·.fId))).1) false).fClean), .sc (.int .i64 ((Cv (Ax x0.fQ) ((Cu x0.fLast (x0.fFl.map (·.fId))).1) false).fKeep)), .sc (.bool (Cv (Ax x0.fQ) ((Cu x0.fLast (x0.fFl.map (·.fId))).1) false).fHasWill), .sc (.string ((Cv (Ax x0.fQ) ((Cu x0.fLast (x0.fFl.map (·.fId))).1) false).fWTopic)), x211, .sc (.int .i64 ((Cv (Ax x0.fQ) ((Cu x0.fLast (x0.fFl.map (·.fId))).1) false).fWQos)), .sc (.bool (Cv (Ax x0.fQ) ((Cu x0.fLast (x0.fFl.map (·.fId))).1) false).fWRetain), .sc (.bool (Cv (Ax x0.fQ) ((Cu x0.fLast (x0.fFl.map (·.fId))).1) false).fHasUser), .sc (.string ((Cv (Ax x0.fQ) ((Cu x0.fLast (x0.fFl.map (·.fId))).1) false).fUser)), .sc (.bool (Cv (Ax x0.fQ) ((Cu x0.fLast (x0.fFl.map (·.fId))).1) false).fHasPass), x212, .sc (.int .i64 ((Cv (Ax x0.fQ) ((Cu x0.fLast (x0.fFl.map (·.fId))).1) false).fCode)), .sc (.bool (Cv (Ax x0.fQ) ((Cu x0.fLast (x0.fFl.map (·.fId))).1) false).fPresent), x213, x214, x215]) s217 AcA (Ad (Aa rfl (Aa rfl (Aa rfl (Aa rfl (Aa rfl (Aa rfl (Aa lx210 (Aa rfl (Aa rfl (Aa rfl (Aa rfl (Aa rfl (Aa rfl (Aa lx211 (Aa rfl (Aa rfl (Aa rfl (Aa rfl (Aa rfl (Aa lx212 (Aa rfl (Aa rfl (Aa lx213 (Aa lx214 (Aa lx215 rfl)))))))))))))))))))))))))) rfl (A7 rfl) rfl fun H s218 => ?_
  refine Aj s218 A8 rfl ?_
  refine Aj s218 (.here) rfl ?_
  have s219 := s218.forget D6
  refine Dr (Fw s219 rfl (.agg ⟨_, rfl, rfl⟩ (.sc (.own (.here) (.own Mx .nil))) (.agg ⟨_, rfl, rfl⟩ (.sc (.sc (.sc (.sc (.sc (.sc (.own zP7 (.sc (.sc (.sc (.sc (.sc (.sc (.own Q0 (.sc (.sc (.sc (.sc (.sc (.own Lf (.sc (.sc (.own Fa (.own Cz (.own Ci .nil))))))))))))))))))))))))) (.sc .nil))) ⟨(Hx ⟨_, rfl, rfl⟩ ⟨trivial, ⟨(Bp (D5 (x0.fFl ++ [⟨(Cu x0.fLast (x0.fFl.map (·.fId))).1, ⟨(Ax x0.fQ).fTopic, (Ax x0.fQ).fBody, (Ax x0.fQ).fQos, (Ax x0.fQ).fRetain⟩, (Ax x0.fQ).fQos⟩])) (by decide)), ⟨(Bp (Gy x0.fQ.tail) (by decide)), trivial⟩⟩⟩), ⟨(Hx ⟨_, rfl, rfl⟩ ⟨trivial, ⟨trivial, ⟨trivial, ⟨trivial, ⟨trivial, ⟨trivial, ⟨(Bp (Jf ((Cv (Ax x0.fQ) ((Cu x0.fLast (x0.fFl.map (·.fId))).1) false).fBody)) (by decide)), ⟨trivial, ⟨trivial, ⟨trivial, ⟨trivial, ⟨trivial, ⟨trivial, ⟨(Bp (Jf ((Cv (Ax x0.fQ) ((Cu x0.fLast (x0.fFl.map (·.fId))).1) false).fWBody)) (by decide)), ⟨trivial, ⟨trivial, ⟨trivial, ⟨trivial, ⟨trivial, ⟨(Bp (Jf ((Cv (Ax x0.fQ) ((Cu x0.fLast (x0.fFl.map (·.fId))).1) false).fPass)) (by decide)), ⟨trivial, ⟨trivial, ⟨(Bp (L9 ((Cv (Ax x0.fQ) ((Cu x0.fLast (x0.fFl.map (·.fId))).1) false).fWants)) (by decide)), ⟨(Bp (Xt ((Cv (Ax x0.fQ) ((Cu x0.fLast (x0.fFl.map (·.fId))).1) false).fNames)) (by decide)), ⟨(Bp (S8 ((Cv (Ax x0.fQ) ((Cu x0.fLast (x0.fFl.map (·.fId))).1) false).fCodes)) (by decide)), trivial⟩⟩⟩⟩⟩⟩⟩⟩⟩⟩⟩⟩⟩⟩⟩⟩⟩⟩⟩⟩⟩⟩⟩⟩⟩), ⟨trivial, trivial⟩⟩⟩) ?_
  have e220 : Ah x0 = (⟨(Cu x0.fLast (x0.fFl.map (·.fId))).1, (x0.fFl ++ [⟨(Cu x0.fLast (x0.fFl.map (·.fId))).1, ⟨(Ax x0.fQ).fTopic, (Ax x0.fQ).fBody, (Ax x0.fQ).fQos, (Ax x0.fQ).fRetain⟩, (Ax x0.fQ).fQos⟩]), x0.fQ.tail⟩ : B5) := by
   clear s0 s202 s203 s205 s207 s208 s216 s217 s218 s219
   try simp only [decide_eq_true_eq, decide_eq_false_iff_not, bne_iff_ne, beq_iff_eq, beq_eq_false_iff_ne] at h13 h21
   first | assumption | (simp only [Ah, Cf, Fv, h13, h21, if_true, if_false, Bool.false_eq_true]; first | done | rfl)
  have e221 : Cf x0 = (⟨(Cv (Ax x0.fQ) ((Cu x0.fLast (x0.fFl.map (·.fId))).1) false).fType, (Cv (Ax x0.fQ) ((Cu x0.fLast (x0.fFl.map (·.fId))).1) false).fDup, (Cv (Ax x0.fQ) ((Cu x0.fLast (x0.fFl.map (·.fId))).1) false).fQos, (Cv (Ax x0.fQ) ((Cu x0.fLast (x0.fFl.map (·.fId))).1) false).fRetain, (Cv (Ax x0.fQ) ((Cu x0.fLast (x0.fFl.map (·.fId))).1) false).fId, (Cv (Ax x0.fQ) ((Cu x0.fLast (x0.fFl.map (·.fId))).1) false).fTopic, (Cv (Ax x0.fQ) ((Cu x0.fLast (x0.fFl.map (·.fId))).1) false).fBody, (Cv (Ax x0.fQ) ((Cu x0.fLast (x0.fFl.map (·.fId))).1) false).fClient, (Cv (Ax x0.fQ) ((Cu x0.fLast (x0.fFl.map (·.fId))).1) false).fLevel, (Cv (Ax x0.fQ) ((Cu x0.fLast (x0.fFl.map (·.fId))).1) false).fClean, (Cv (Ax x0.fQ) ((Cu x0.fLast (x0.fFl.map (·.fId))).1) false).fKeep, (Cv (Ax x0.fQ) ((Cu x0.fLast (x0.fFl.map (·.fId))).1) false).fHasWill, (Cv (Ax x0.fQ) ((Cu x0.fLast (x0.fFl.map (·.fId))).1) false).fWTopic, (Cv (Ax x0.fQ) ((Cu x0.fLast (x0.fFl.map (·.fId))).1) false).fWBody, (Cv (Ax x0.fQ) ((Cu x0.fLast (x0.fFl.map (·.fId))).1) false).fWQos, (Cv (Ax x0.fQ) ((Cu x0.fLast (x0.fFl.map (·.fId))).1) false).fWRetain, (Cv (Ax x0.fQ) ((Cu x0.fLast (x0.fFl.map (·.fId))).1) false).fHasUser, (Cv (Ax x0.fQ) ((Cu x0.fLast (x0.fFl.map (·.fId))).1) false).fUser, (Cv (Ax x0.fQ) ((Cu x0.fLast (x0.fFl.map (·.fId))).1) false).fHasPass, (Cv (Ax x0.fQ) ((Cu x0.fLast (x0.fFl.map (·.fId))).1) false).fPass, (Cv (Ax x0.fQ) ((Cu x0.fLast (x0.fFl.map (·.fId))).1) false).fCode, (Cv (Ax x0.fQ) ((Cu x0.fLast (x0.fFl.map (·.fId))).1) false).fPresent, ((Cv (Ax x0.fQ) ((Cu x0.fLast (x0.fFl.map (·.fId))).1) false).fWants), (Cv (Ax x0.fQ) ((Cu x0.fLast (x0.fFl.map (·.fId))).1) false).fNames, (Cv (Ax x0.fQ) ((Cu x0.fLast (x0.fFl.map (·.fId))).1) false).fCodes⟩ : B8) := by
   clear s0 s202 s203 s205 s207 s208 s216 s217 s218 s219
   try simp only [decide_eq_true_eq, decide_eq_false_iff_not, bne_iff_ne, beq_iff_eq, beq_eq_false_iff_ne] at h13 h21
   first | assumption | (simp only [Ah, Cf, Fv, h13, h21, if_true, if_false, Bool.false_eq_true]; first | done | rfl)
  have e222 : Io x0 = true := by
   clear s0 s202 s203 s205 s207 s208 s216 s217 s218 s219
   try simp only [decide_eq_true_eq, decide_eq_false_iff_not, bne_iff_ne, beq_iff_eq, beq_eq_false_iff_ne] at h13 h21
   first | assumption | (simp only [Ah, Cf, Fv, h13, h21, if_true, if_false, Bool.false_eq_true]; first | done | rfl)
  rw [e220, e221, e222]
  first | done | rfl
 | y :: t, pre, m + 1, i, i10, i17, i5, i3, i1, a5, x14, x15, x8, x7, H, he, hi, hm, la5, lx14, lx15, lx8, lx7, s0 => by
  have hlt : pre.length < x0.fFl.length := by rw [he]; simp
  have hfl := Yx x0 b0
  have hpb := S1 x0 b0
  rw [L5]
  try simp only [Bm, Bi, A4, A6, A9, Aw, Ca, Cc, Be, Cy, Fc]
  refine Af (o' := 1) rfl ?_
  refine Ay (c := Al Az x0.fFl) s0 D6 rfl ?_
  refine Ox ?_
  refine Hw ?_
  refine C1 (by simp [hi]; omega) ?_
  refine Af (o' := 1) rfl ?_
  refine Ay (c := Al Az x0.fFl) s0 D6 rfl ?_
  refine U4 hi Br (by decide) he ?_
  refine Od ?_
  refine Rn (c := .sc (.int .i64 y.fId)) rfl ?_
  refine Bk (cs := [.sc (.int .i64 y.fId)]) rfl ?_
  refine Bl s0 fun i201 H s202 => ?_
  refine Vr s202 A8 (.here) ⟨_, _, rfl, rfl, rfl, rfl⟩ rfl (by first | omega | (simp only [List.length_map]; omega)) fun x203 H lx203 s204 => ?_
  refine Eo (by omega) (by omega) ?_
  exact Lc n hn x0 k0 b0 h13 h21  t (pre ++ [y]) m _ i10 i17 i5 i3 i1 x203 x14 x15 x8 x7 _ (by rw [he]; simp) (by rw [hi]; simp) (by simpa using hm) lx203 lx14 lx15 lx8 lx7 (by simpa only [List.map_append, List.map_cons, List.map_nil] using (s204.sel (.cons (.here) (.cons (.here) (.cons (.here) (.cons (.here) (.cons (.here) (.cons (.here) (.cons (.here) (.cons (.here) (.cons (.here) (.cons (.here) .nil))))))))))))
theorem Tj (n : Nat) (hn : 1048576 < n) (x0 : B5) (k0 : Rj x0) (b0 : Fi x0 ≤ 1048576) : Di E0 (n + 13) 191 142 [.agg (Bg x0)] = some (.tup [.agg (Bg (Ah x0)), .agg (C7 (Cf x0)), .sc (.bool (Io x0))]) := by
 rw [Bu, Aev, f142]
 refine Iu (G := (· = some (.tup [.agg (Bg (Ah x0)), .agg (C7 (Cf x0)), .sc (.bool (Io x0))]))) ?_
 have hfl := Yx x0 b0
 have hpb := S1 x0 b0
 try simp only [De, Cj, Bi, A4, A6, A9, Ew, Aw, Be, Fc]
 have s0 : Sep [] [] := Kd
 refine Qh s0 (H8 (H5 _)) fun i1 H s2 => ?_
 refine C8 s2 fun i3 H s4 => ?_
 refine C8 s4 fun i5 H s6 => ?_
 refine Aj s6 Ci rfl ?_
 refine E9 s6 rfl (.aggF (H5 _) .nil) (Ot (n + 8) (by omega) x0 (AiC x0 b0)) ⟨_, rfl, rfl⟩ (P5 _) ?_
 rintro _ _ H ⟨x7, x8, lx7, lx8, rfl, rfl⟩ s9
 simp only [List.nil_append, List.cons_append] at s9
 refine C8 s9 fun i10 H s11 => ?_
 refine A3 (cs' := [.sc (.int .i64 x0.fLast), x7, x8]) s11 (.here) (Ad (Aa rfl (Aa lx7 (Aa lx8 rfl)))) rfl (A7 rfl) rfl fun H s12 => ?_
 refine Aj s12 Lf rfl ?_
 refine F6 (v := (.bool (Io x0))) s12 rfl (.aggF (H5 _) .nil) (Rq (n + 1) (by omega) x0 k0 b0) ?_
 refine F8 ?_
 refine Ai ((Io x0)) (fun h13 => ?_) (fun h13 => ?_)
 ·refine B3 (nF h13) ?_
  refine Af (o' := 2) rfl ?_
  refine Ay (c := Al Au x0.fQ) s12 Lf rfl ?_
  refine Es s12 rfl (.cons .ro .nil) (AaR (n + 8) (by omega) x0.fQ k0.2.2 (AhI x0 b0)) rfl (D3 (ty := 79) rfl (Gy x0.fQ.tail) (Ek ⟨_, rfl, rfl⟩ (AgD _) (Bz Cp))) ?_
  rintro _ _ H ⟨x15, _, _, lx15, rfl, rfl, ⟨_, _, _, _, rfl, rfl, ⟨x14, lx14, rfl, rfl⟩, ⟨_, rfl, ⟨rfl, rfl⟩⟩⟩⟩ s16
  simp only [List.nil_append, List.cons_append] at s16
  refine Cn (v := x15) rfl ?_
  refine Cn (v := .agg [.sc (.string ((Ax x0.fQ).fTopic)), x14, .sc (.int .i64 ((Ax x0.fQ).fQos)), .sc (.bool (Ax x0.fQ).fRetain)]) rfl ?_
  refine Cn (v := .sc (.bool (Agq x0.fQ))) rfl ?_
  refine C8 s16 fun i17 H s18 => ?_
  refine A3 (cs' := [.sc (.string ((Ax x0.fQ).fTopic)), x14, .sc (.int .i64 ((Ax x0.fQ).fQos)), .sc (.bool (Ax x0.fQ).fRetain)]) s18 (.here) (Ad (Aa rfl (Aa lx14 (Aa rfl (Aa rfl rfl))))) rfl (A7 rfl) rfl fun H s19 => ?_
  refine Af (o' := 2) rfl ?_
  refine A3 (cs' := [.sc (.int .i64 x0.fLast), x7, x15]) s19 Cz (Ak lx15) rfl (A7 rfl) rfl fun H s20 => ?_
  refine Af (o' := 2) rfl ?_
  refine Ay (c := .sc (.int .i64 ((Ax x0.fQ).fQos))) s20 A8 rfl ?_
  refine Bv ?_
  refine Ai ((decide (((Ax x0.fQ).fQos) = 0))) (fun h21 => ?_) (fun h21 => ?_)
  ·refine C1 h21 ?_
   refine Aj s20 (.here) rfl ?_
   refine Aj s20 A8 rfl ?_
   have c22 := Ww (n + 11) (by omega) (Ax x0.fQ) 0 false hpb
   refine E9 s20 rfl (.agg (.cons .sc (.cons (.own (by decide) Ci) (.cons .sc (.cons .sc .nil)))) (.cons .sc (.cons .sc .nil))) (c22) ⟨_, rfl, rfl⟩ (Hr _) ?_
   rintro _ _ H ⟨x23, x24, x25, x26, x27, x28, lx23, lx24, lx25, lx26, lx27, lx28, rfl, rfl⟩ s29
   simp only [List.nil_append, List.cons_append] at s29
   refine A3 (cs' := [.sc (.int .i64 x0.fLast), x7, x15]) s29 AcA (Ad (Aa rfl (Aa lx7 (Aa lx15 rfl)))) rfl (A7 rfl) rfl fun H s30 => ?_
   refine A3 (cs' := [.sc (.int .i64 ((Cv (Ax x0.fQ) 0 false).fType)), .sc (.bool (Cv (Ax x0.fQ) 0 false).fDup), .sc (.int .i64 ((Cv (Ax x0.fQ) 0 false).fQos)), .sc (.bool (Cv (Ax x0.fQ) 0 false).fRetain), .sc (.int .i64 ((Cv (Ax x0.fQ) 0 false).fId)), .sc (.string ((Cv (Ax x0.fQ) 0 false).fTopic)), x23, .sc (.string ((Cv (Ax x0.fQ) 0 false).fClient)), .sc (.int .i64 ((Cv (Ax x0.fQ) 0 false).fLevel)), .sc (.bool (Cv (Ax x0.fQ) 0 false).fClean), .sc (.int .i64 ((Cv (Ax x0.fQ) 0 false).fKeep)), .sc (.bool (Cv (Ax x0.fQ) 0 false).fHasWill), .sc (.string ((Cv (Ax x0.fQ) 0 false).fWTopic)), x24, .sc (.int .i64 ((Cv (Ax x0.fQ) 0 false).fWQos)), .sc (.bool (Cv (Ax x0.fQ) 0 false).fWRetain), .sc (.bool (Cv (Ax x0.fQ) 0 false).fHasUser), .sc (.string ((Cv (Ax x0.fQ) 0 false).fUser)), .sc (.bool (Cv (Ax x0.fQ) 0 false).fHasPass), x25, .sc (.int .i64 ((Cv (Ax x0.fQ) 0 false).fCode)), .sc (.bool (Cv (Ax x0.fQ) 0 false).fPresent), x26, x27, x28]) s30 AcA (Ad (Aa rfl (Aa rfl (Aa rfl (Aa rfl (Aa rfl (Aa rfl (Aa lx23 (Aa rfl (Aa rfl (Aa rfl (Aa rfl (Aa rfl (Aa rfl (Aa lx24 (Aa rfl (Aa rfl (Aa rfl (Aa rfl (Aa rfl (Aa lx25 (Aa rfl (Aa rfl (Aa lx26 (Aa lx27 (Aa lx28 rfl)))))))))))))))))))))))))) rfl (A7 rfl) rfl fun H s31 => ?_
   refine Aj s31 A8 rfl ?_
   refine Aj s31 (.here) rfl ?_
   refine Dr (Fw s31 rfl (.agg ⟨_, rfl, rfl⟩ (.sc (.own AcA (.own Mx .nil))) (.agg ⟨_, rfl, rfl⟩ (.sc (.sc (.sc (.sc (.sc (.sc (.own zP7 (.sc (.sc (.sc (.sc (.sc (.sc (.own Q0 (.sc (.sc (.sc (.sc (.sc (.own Lf (.sc (.sc (.own Fa (.own Cz (.own Ci .nil))))))))))))))))))))))))) (.sc .nil))) ⟨(Hx ⟨_, rfl, rfl⟩ ⟨trivial, ⟨(Bp (D5 x0.fFl) (by decide)), ⟨(Bp (Gy x0.fQ.tail) (by decide)), trivial⟩⟩⟩), ⟨(Hx ⟨_, rfl, rfl⟩ ⟨trivial, ⟨trivial, ⟨trivial, ⟨trivial, ⟨trivial, ⟨trivial, ⟨(Bp (Jf ((Cv (Ax x0.fQ) 0 false).fBody)) (by decide)), ⟨trivial, ⟨trivial, ⟨trivial, ⟨trivial, ⟨trivial, ⟨trivial, ⟨(Bp (Jf ((Cv (Ax x0.fQ) 0 false).fWBody)) (by decide)), ⟨trivial, ⟨trivial, ⟨trivial, ⟨trivial, ⟨trivial, ⟨(Bp (Jf ((Cv (Ax x0.fQ) 0 false).fPass)) (by decide)), ⟨trivial, ⟨trivial, ⟨(Bp (L9 ((Cv (Ax x0.fQ) 0 false).fWants)) (by decide)), ⟨(Bp (Xt ((Cv (Ax x0.fQ) 0 false).fNames)) (by decide)), ⟨(Bp (S8 ((Cv (Ax x0.fQ) 0 false).fCodes)) (by decide)), trivial⟩⟩⟩⟩⟩⟩⟩⟩⟩⟩⟩⟩⟩⟩⟩⟩⟩⟩⟩⟩⟩⟩⟩⟩⟩), ⟨trivial, trivial⟩⟩⟩) ?_
   have e32 : Ah x0 = (⟨x0.fLast, x0.fFl, x0.fQ.tail⟩ : B5) := by
    clear s0 s2 s4 s6 s9 s11 s12 s16 s18 s19 s20 s29 s30 s31
    try simp only [decide_eq_true_eq, decide_eq_false_iff_not, bne_iff_ne, beq_iff_eq, beq_eq_false_iff_ne] at h13 h21
    first | assumption | (simp only [Ah, Cf, Fv, h13, h21, if_true, if_false, Bool.false_eq_true]; first | done | rfl)
   have e33 : Cf x0 = (⟨(Cv (Ax x0.fQ) 0 false).fType, (Cv (Ax x0.fQ) 0 false).fDup, (Cv (Ax x0.fQ) 0 false).fQos, (Cv (Ax x0.fQ) 0 false).fRetain, (Cv (Ax x0.fQ) 0 false).fId, (Cv (Ax x0.fQ) 0 false).fTopic, (Cv (Ax x0.fQ) 0 false).fBody, (Cv (Ax x0.fQ) 0 false).fClient, (Cv (Ax x0.fQ) 0 false).fLevel, (Cv (Ax x0.fQ) 0 false).fClean, (Cv (Ax x0.fQ) 0 false).fKeep, (Cv (Ax x0.fQ) 0 false).fHasWill, (Cv (Ax x0.fQ) 0 false).fWTopic, (Cv (Ax x0.fQ) 0 false).fWBody, (Cv (Ax x0.fQ) 0 false).fWQos, (Cv (Ax x0.fQ) 0 false).fWRetain, (Cv (Ax x0.fQ) 0 false).fHasUser, (Cv (Ax x0.fQ) 0 false).fUser, (Cv (Ax x0.fQ) 0 false).fHasPass, (Cv (Ax x0.fQ) 0 false).fPass, (Cv (Ax x0.fQ) 0 false).fCode, (Cv (Ax x0.fQ) 0 false).fPresent, ((Cv (Ax x0.fQ) 0 false).fWants), (Cv (Ax x0.fQ) 0 false).fNames, (Cv (Ax x0.fQ) 0 false).fCodes⟩ : B8) := by
    clear s0 s2 s4 s6 s9 s11 s12 s16 s18 s19 s20 s29 s30 s31
    try simp only [decide_eq_true_eq, decide_eq_false_iff_not, bne_iff_ne, beq_iff_eq, beq_eq_false_iff_ne] at h13 h21
    first | assumption | (simp only [Ah, Cf, Fv, h13, h21, if_true, if_false, Bool.false_eq_true]; first | done | rfl)
   have e34 : Io x0 = true := by
    clear s0 s2 s4 s6 s9 s11 s12 s16 s18 s19 s20 s29 s30 s31
    try simp only [decide_eq_true_eq, decide_eq_false_iff_not, bne_iff_ne, beq_iff_eq, beq_eq_false_iff_ne] at h13 h21
    first | assumption | (simp only [Ah, Cf, Fv, h13, h21, if_true, if_false, Bool.false_eq_true]; first | done | rfl)
   rw [e32, e33, e34]
   first | done | rfl
  ·refine B3 h21 ?_
   have s35 := s20.nl (ty := 53) ⟨_, _, rfl, rfl⟩
   exact Lc n hn x0 k0 b0 h13 h21  x0.fFl [] _ 0 i10 i17 i5 i3 i1 .nl x14 x15 x8 x7 _ rfl rfl (by omega) rfl lx14 lx15 lx8 lx7 s35
 ·refine C1 (nT h13) ?_
  refine Aj s12 (.here) rfl ?_
  refine Bk (cs := [.sc (.int .i64 0), .sc (.bool false), .sc (.int .i64 0), .sc (.bool false), .sc (.int .i64 0), .sc (.string (⟨#[]⟩)), .nl, .sc (.string (⟨#[]⟩)), .sc (.int .i64 0), .sc (.bool false), .sc (.int .i64 0), .sc (.bool false), .sc (.string (⟨#[]⟩)), .nl, .sc (.int .i64 0), .sc (.bool false), .sc (.bool false), .sc (.string (⟨#[]⟩)), .sc (.bool false), .nl, .sc (.int .i64 0), .sc (.bool false), .nl, .nl, .nl]) rfl ?_
  refine A3 (cs' := [.sc (.int .i64 x0.fLast), x7, x8]) s12 Fa (Ad (Aa rfl (Aa lx7 (Aa lx8 rfl)))) rfl (A7 rfl) rfl fun H s36 => ?_
  refine A3 (cs' := [.sc (.int .i64 0), .sc (.bool false), .sc (.int .i64 0), .sc (.bool false), .sc (.int .i64 0), .sc (.string (⟨#[]⟩)), .nl, .sc (.string (⟨#[]⟩)), .sc (.int .i64 0), .sc (.bool false), .sc (.int .i64 0), .sc (.bool false), .sc (.string (⟨#[]⟩)), .nl, .sc (.int .i64 0), .sc (.bool false), .sc (.bool false), .sc (.string (⟨#[]⟩)), .sc (.bool false), .nl, .sc (.int .i64 0), .sc (.bool false), .nl, .nl, .nl]) s36 Fa (Ad (Aa rfl (Aa rfl (Aa rfl (Aa rfl (Aa rfl (Aa rfl (Aa rfl (Aa rfl (Aa rfl (Aa rfl (Aa rfl (Aa rfl (Aa rfl (Aa rfl (Aa rfl (Aa rfl (Aa rfl (Aa rfl (Aa rfl (Aa rfl (Aa rfl (Aa rfl (Aa rfl (Aa rfl (Aa rfl rfl)))))))))))))))))))))))))) rfl (A7 rfl) rfl fun H s37 => ?_
  refine Aj s37 A8 rfl ?_
  refine Aj s37 (.here) rfl ?_
  refine Dr (Fw s37 rfl (.agg ⟨_, rfl, rfl⟩ (.sc (.own Fa (.own Cz .nil))) (.agg ⟨_, rfl, rfl⟩ (.sc (.sc (.sc (.sc (.sc (.sc (.nl (.sc (.sc (.sc (.sc (.sc (.sc (.nl (.sc (.sc (.sc (.sc (.sc (.nl (.sc (.sc (.nl (.nl (.nl .nil))))))))))))))))))))))))) (.sc .nil))) ⟨(Hx ⟨_, rfl, rfl⟩ ⟨trivial, ⟨(Bp (D5 x0.fFl) (by decide)), ⟨(Bp (Gy x0.fQ) (by decide)), trivial⟩⟩⟩), ⟨(Hx ⟨_, rfl, rfl⟩ ⟨trivial, ⟨trivial, ⟨trivial, ⟨trivial, ⟨trivial, ⟨trivial, ⟨(Ej ⟨_, _, rfl, rfl⟩), ⟨trivial, ⟨trivial, ⟨trivial, ⟨trivial, ⟨trivial, ⟨trivial, ⟨(Ej ⟨_, _, rfl, rfl⟩), ⟨trivial, ⟨trivial, ⟨trivial, ⟨trivial, ⟨trivial, ⟨(Ej ⟨_, _, rfl, rfl⟩), ⟨trivial, ⟨trivial, ⟨(Ej ⟨_, _, rfl, rfl⟩), ⟨(Ej ⟨_, _, rfl, rfl⟩), ⟨(Ej ⟨_, _, rfl, rfl⟩), trivial⟩⟩⟩⟩⟩⟩⟩⟩⟩⟩⟩⟩⟩⟩⟩⟩⟩⟩⟩⟩⟩⟩⟩⟩⟩), ⟨trivial, trivial⟩⟩⟩) ?_
  have e38 : Ah x0 = (⟨x0.fLast, x0.fFl, x0.fQ⟩ : B5) := by
   clear s0 s2 s4 s6 s9 s11 s12 s36 s37
   try simp only [decide_eq_true_eq, decide_eq_false_iff_not, bne_iff_ne, beq_iff_eq, beq_eq_false_iff_ne] at h13
   first | assumption | (simp only [Ah, Cf, Fv, h13, if_true, if_false, Bool.false_eq_true]; first | done | rfl)
  have e39 : Cf x0 = (⟨0, false, 0, false, 0, ⟨#[]⟩, ⟨#[]⟩, ⟨#[]⟩, 0, false, 0, false, ⟨#[]⟩, ⟨#[]⟩, 0, false, false, ⟨#[]⟩, false, ⟨#[]⟩, 0, false, [], [], []⟩ : B8) := by
   clear s0 s2 s4 s6 s9 s11 s12 s36 s37
   try simp only [decide_eq_true_eq, decide_eq_false_iff_not, bne_iff_ne, beq_iff_eq, beq_eq_false_iff_ne] at h13
   first | assumption | (simp only [Ah, Cf, Fv, h13, if_true, if_false, Bool.false_eq_true]; first | done | rfl)
  have e40 : Io x0 = false := by
   clear s0 s2 s4 s6 s9 s11 s12 s36 s37
   try simp only [decide_eq_true_eq, decide_eq_false_iff_not, bne_iff_ne, beq_iff_eq, beq_eq_false_iff_ne] at h13
   first | assumption | (simp only [Ah, Cf, Fv, h13, if_true, if_false, Bool.false_eq_true]; first | done | rfl)
  rw [e38, e39, e40]
  first | done | rfl
end
section
open Go
def N9 (x y : Rv) : Bool := x.fFilter.toList == y.fFilter.toList && x.fQos == y.fQos
theorem AbW (x y : Rv) : Kb [1, 0] (Ez x) (Ez y) = some (N9 x y) := by
 simp only [Ez, Kb, Yz, N9, if_true, Option.bind_some]
 generalize (x.fFilter.toList == y.fFilter.toList) = b0
 generalize (x.fQos == y.fQos) = b1
 cases b0 <;> cases b1 <;> rfl
def G5 (a b : B8) : Bool := (a.fType == b.fType) && (a.fDup == b.fDup) && (a.fQos == b.fQos) && (a.fRetain == b.fRetain) && (a.fId == b.fId) && (a.fTopic.toList == b.fTopic.toList) && (a.fBody.toList == b.fBody.toList) && (a.fClient.toList == b.fClient.toList) && (a.fLevel == b.fLevel) && (a.fClean == b.fClean) && (a.fKeep == b.fKeep) && (a.fHasWill == b.fHasWill) && (a.fWTopic.toList == b.fWTopic.toList) && (a.fWBody.toList == b.fWBody.toList) && (a.fWQos == b.fWQos) && (a.fWRetain == b.fWRetain) && (a.fHasUser == b.fHasUser) && (a.fUser.toList == b.fUser.toList) && (a.fHasPass == b.fHasPass) && (a.fPass.toList == b.fPass.toList) && (a.fCode == b.fCode) && (a.fPresent == b.fPresent)
def Oe (a b : B8) : Bool := Pv N9 a.fWants b.fWants && Pv Vn a.fNames b.fNames && Pv eqI a.fCodes b.fCodes
def G7 (a b : B8) : Bool := Oe a b && G5 a b
theorem Afx (n : Nat) (hn : 1048576 < n) (ty : Nat) (a b : B8) (H : Ac) (i1 i2 : Nat) (B1 : H[i1]? = some ⟨C7 a, true, true⟩) (B2 : H[i2]? = some ⟨C7 b, true, true⟩) (hl2 : a.fCodes.length ≤ 1048576) (hq2 : a.fCodes.length = b.fCodes.length) : Ka (PR (n + 1) AV) (n + 1) (fun x H => Bc At E0.tp ty H x) (n + 1) (.ptr i1 0) (.ptr i2 0) (.sc (.int .i64 0)) H = some (.sc (.bool (if Jk eqI a.fCodes b.fCodes then (G5 a b) else false))) := by
 have hL : ∀ m i, Ka (PR (n + 1) AV) (n + 1) (fun x H => Bc At E0.tp ty H x) (m + 1) (.ptr i1 0) (.ptr i2 0) i H = Fh .lss i (.sc (.int .i64 a.fCodes.length)) fun t14 => Ih t14 (E7 1 (Al Th a.fCodes) i fun t19 => C2 false 1 t19 H fun t20 => E7 1 (Al Th b.fCodes) i fun t23 => C2 false 1 t23 H fun t24 => (fun x y k => Fh .neq x y k) t20 t24 fun t25 => Ih t25 (some (.sc (.bool false))) (Fh .add i (.sc (.int .i64 1)) fun t16 => Ka (PR (n + 1) AV) (n + 1) (fun x H => Bc At E0.tp ty H x) m (.ptr i1 0) (.ptr i2 0) t16 H)) (some (.sc (.bool (G5 a b)))) := by
  intro m i
  show (PR (n + 1) AV).fadr 24 (.ptr i1 0) _ = _
  simp only [Bi, A4, A9, Ep, Er, Aw, Bx, Ch, Ca, Cc]
  refine Ap ?_
  refine Ce (c := Dn a.fCodes) B1 (A7 rfl) rfl ?_
  refine Do ?_
  congr 1
  funext t
  congr 1
  ·refine Ap ?_
   refine Ce (c := Dn a.fCodes) B1 (A7 rfl) rfl ?_
   rw [La]
   congr 1
   funext t2
   congr 1
   funext t3
   refine Ap ?_
   refine Ce (c := Dn b.fCodes) B2 (A7 rfl) rfl ?_
   rw [La]
   rfl
  ·skip
   refine Ap ?_
   refine Ce (c := .sc (.int .i64 a.fType)) B1 (A7 rfl) rfl ?_
   refine Ap ?_
   refine Ce (c := .sc (.int .i64 b.fType)) B2 (A7 rfl) rfl ?_
   refine Bf (v := .sc (.bool (a.fType == b.fType))) (fun k => rfl) ?_
   apply B7 ((a.fType == b.fType) && (a.fDup == b.fDup))
   ·intro b1 q1
    refine Ai ((a.fType == b.fType)) (fun h1 => ?_) (fun h1 => ?_)
    ·refine Bb h1 ?_
     refine Ap ?_
     refine Bb h1 ?_
     refine Ce (c := .sc (.bool a.fDup)) B1 (A7 rfl) rfl ?_
     refine Bb h1 ?_
     refine Ap ?_
     refine Bb h1 ?_
     refine Ce (c := .sc (.bool b.fDup)) B2 (A7 rfl) rfl ?_
     refine Bb h1 ?_
     refine M8 (v := .sc (.bool (a.fDup == b.fDup))) (fun k => rfl) ?_
     refine Dh h1 (Ke q1 h1) ?_
     exact rfl
    ·refine Bd h1 ?_
     refine Bd h1 ?_
     refine Bd h1 ?_
     refine Bd h1 ?_
     refine Bd h1 ?_
     refine Df h1 (Ko q1 h1) ?_
     exact rfl
   intro b1 q1
   apply B7 (b1 && (a.fQos == b.fQos))
   ·intro b2 q2
    refine Ai (b1) (fun h2 => ?_) (fun h2 => ?_)
    ·refine Bb h2 ?_
     refine Ap ?_
     refine Bb h2 ?_
     refine Ce (c := .sc (.int .i64 a.fQos)) B1 (A7 rfl) rfl ?_
     refine Bb h2 ?_
     refine Ap ?_
     refine Bb h2 ?_
     refine Ce (c := .sc (.int .i64 b.fQos)) B2 (A7 rfl) rfl ?_
     refine Bb h2 ?_
     refine Bf (v := .sc (.bool (a.fQos == b.fQos))) (fun k => rfl) ?_
     refine Dh h2 (Ke q2 h2) ?_
     exact rfl
    ·refine Bd h2 ?_
     refine Bd h2 ?_
     refine Bd h2 ?_
     refine Bd h2 ?_
     refine Bd h2 ?_
     refine Df h2 (Ko q2 h2) ?_
     exact rfl
   intro b2 q2
   apply B7 (b2 && (a.fRetain == b.fRetain))
   ·intro b3 q3
    refine Ai (b2) (fun h3 => ?_) (fun h3 => ?_)
    ·refine Bb h3 ?_
     refine Ap ?_
     refine Bb h3 ?_
     refine Ce (c := .sc (.bool a.fRetain)) B1 (A7 rfl) rfl ?_
     refine Bb h3 ?_
     refine Ap ?_
     refine Bb h3 ?_
     refine Ce (c := .sc (.bool b.fRetain)) B2 (A7 rfl) rfl ?_
     refine Bb h3 ?_
     refine M8 (v := .sc (.bool (a.fRetain == b.fRetain))) (fun k => rfl) ?_
     refine Dh h3 (Ke q3 h3) ?_
     exact rfl
    ·refine Bd h3 ?_
     refine Bd h3 ?_
     refine Bd h3 ?_
     refine Bd h3 ?_
     refine Bd h3 ?_
     refine Df h3 (Ko q3 h3) ?_
     exact rfl
   intro b3 q3
   apply B7 (b3 && (a.fId == b.fId))
   ·intro b4 q4
    refine Ai (b3) (fun h4 => ?_) (fun h4 => ?_)
    ·refine Bb h4 ?_
     refine Ap ?_
     refine Bb h4 ?_
     refine Ce (c := .sc (.int .i64 a.fId)) B1 (A7 rfl) rfl ?_
     refine Bb h4 ?_
     refine Ap ?_
     refine Bb h4 ?_
     refine Ce (c := .sc (.int .i64 b.fId)) B2 (A7 rfl) rfl ?_
     refine Bb h4 ?_
     refine Bf (v := .sc (.bool (a.fId == b.fId))) (fun k => rfl) ?_
     refine Dh h4 (Ke q4 h4) ?_
     exact rfl
    ·refine Bd h4 ?_
     refine Bd h4 ?_
     refine Bd h4 ?_
     refine Bd h4 ?_
     refine Bd h4 ?_
     refine Df h4 (Ko q4 h4) ?_
     exact rfl
   intro b4 q4
   apply B7 (b4 && (a.fTopic.toList == b.fTopic.toList))
   ·intro b5 q5
    refine Ai (b4) (fun h5 => ?_) (fun h5 => ?_)
    ·refine Bb h5 ?_
     refine Ap ?_
     refine Bb h5 ?_
     refine Ce (c := .sc (.string a.fTopic)) B1 (A7 rfl) rfl ?_
     refine Bb h5 ?_
     refine Ap ?_
     refine Bb h5 ?_
     refine Ce (c := .sc (.string b.fTopic)) B2 (A7 rfl) rfl ?_
     refine Bb h5 ?_
     refine Bf (v := .sc (.bool (a.fTopic.toList == b.fTopic.toList))) (fun k => rfl) ?_
     refine Dh h5 (Ke q5 h5) ?_
     exact rfl
    ·refine Bd h5 ?_
     refine Bd h5 ?_
     refine Bd h5 ?_
     refine Bd h5 ?_
     refine Bd h5 ?_
     refine Df h5 (Ko q5 h5) ?_
     exact rfl
   intro b5 q5
   apply B7 (b5 && (a.fBody.toList == b.fBody.toList))
   ·intro b6 q6
    refine Ai (b5) (fun h6 => ?_) (fun h6 => ?_)
    ·refine Bb h6 ?_
     refine Ap ?_
     refine Bb h6 ?_
     refine Ce (c := Bj a.fBody) B1 (A7 rfl) rfl ?_
     refine Bb h6 ?_
     refine Ap ?_
     refine Bb h6 ?_
     refine Ce (c := Bj b.fBody) B2 (A7 rfl) rfl ?_
     refine Bb h6 ?_
     refine F5 rfl (Cl (Ik _ _ _) (Cl (Ik _ _ _) E6)) (Ur (n + 0) _ a.fBody b.fBody) ?_
     refine Dh h6 (Ke q6 h6) ?_
     exact rfl
    ·refine Bd h6 ?_
     refine Bd h6 ?_
     refine Bd h6 ?_
     refine Bd h6 ?_
     refine Bd h6 ?_
     refine Df h6 (Ko q6 h6) ?_
     exact rfl
   intro b6 q6
   apply B7 (b6 && (a.fClient.toList == b.fClient.toList))
   ·intro b7 q7
    refine Ai (b6) (fun h7 => ?_) (fun h7 => ?_)
    ·refine Bb h7 ?_
     refine Ap ?_
     refine Bb h7 ?_
     refine Ce (c := .sc (.string a.fClient)) B1 (A7 rfl) rfl ?_
     refine Bb h7 ?_
     refine Ap ?_
     refine Bb h7 ?_
     refine Ce (c := .sc (.string b.fClient)) B2 (A7 rfl) rfl ?_
     refine Bb h7 ?_
     refine Bf (v := .sc (.bool (a.fClient.toList == b.fClient.toList))) (fun k => rfl) ?_
     refine Dh h7 (Ke q7 h7) ?_
     exact rfl
    ·refine Bd h7 ?_
     refine Bd h7 ?_
     refine Bd h7 ?_
     refine Bd h7 ?_
     refine Bd h7 ?_
     refine Df h7 (Ko q7 h7) ?_
     exact rfl
   intro b7 q7
   apply B7 (b7 && (a.fLevel == b.fLevel))
   ·intro b8 q8
    refine Ai (b7) (fun h8 => ?_) (fun h8 => ?_)
    ·refine Bb h8 ?_
     refine Ap ?_
     refine Bb h8 ?_
     refine Ce (c := .sc (.int .i64 a.fLevel)) B1 (A7 rfl) rfl ?_
     refine Bb h8 ?_
     refine Ap ?_
     refine Bb h8 ?_
     refine Ce (c := .sc (.int .i64 b.fLevel)) B2 (A7 rfl) rfl ?_
     refine Bb h8 ?_
     refine Bf (v := .sc (.bool (a.fLevel == b.fLevel))) (fun k => rfl) ?_
     refine Dh h8 (Ke q8 h8) ?_
     exact rfl
    ·refine Bd h8 ?_
     refine Bd h8 ?_
     refine Bd h8 ?_
     refine Bd h8 ?_
     refine Bd h8 ?_
     refine Df h8 (Ko q8 h8) ?_
     exact rfl
   intro b8 q8
   apply B7 (b8 && (a.fClean == b.fClean))
   ·intro b9 q9
    refine Ai (b8) (fun h9 => ?_) (fun h9 => ?_)
    ·refine Bb h9 ?_
     refine Ap ?_
     refine Bb h9 ?_
     refine Ce (c := .sc (.bool a.fClean)) B1 (A7 rfl) rfl ?_
     refine Bb h9 ?_
     refine Ap ?_
     refine Bb h9 ?_
     refine Ce (c := .sc (.bool b.fClean)) B2 (A7 rfl) rfl ?_
     refine Bb h9 ?_
     refine M8 (v := .sc (.bool (a.fClean == b.fClean))) (fun k => rfl) ?_
     refine Dh h9 (Ke q9 h9) ?_
     exact rfl
    ·refine Bd h9 ?_
     refine Bd h9 ?_
     refine Bd h9 ?_
     refine Bd h9 ?_
     refine Bd h9 ?_
     refine Df h9 (Ko q9 h9) ?_
     exact rfl
   intro b9 q9
   apply B7 (b9 && (a.fKeep == b.fKeep))
   ·intro b10 q10
    refine Ai (b9) (fun h10 => ?_) (fun h10 => ?_)
    ·refine Bb h10 ?_
     refine Ap ?_
     refine Bb h10 ?_
     refine Ce (c := .sc (.int .i64 a.fKeep)) B1 (A7 rfl) rfl ?_
     refine Bb h10 ?_
     refine Ap ?_
     refine Bb h10 ?_
     refine Ce (c := .sc (.int .i64 b.fKeep)) B2 (A7 rfl) rfl ?_
     refine Bb h10 ?_
     refine Bf (v := .sc (.bool (a.fKeep == b.fKeep))) (fun k => rfl) ?_
     refine Dh h10 (Ke q10 h10) ?_
     exact rfl
    ·refine Bd h10 ?_
     refine Bd h10 ?_
     refine Bd h10 ?_
     refine Bd h10 ?_
     refine Bd h10 ?_
     refine Df h10 (Ko q10 h10) ?_
     exact rfl
   intro b10 q10
   apply B7 (b10 && (a.fHasWill == b.fHasWill))
   ·intro b11 q11
    refine Ai (b10) (fun h11 => ?_) (fun h11 => ?_)
    ·refine Bb h11 ?_
     refine Ap ?_
     refine Bb h11 ?_
     refine Ce (c := .sc (.bool a.fHasWill)) B1 (A7 rfl) rfl ?_
     refine Bb h11 ?_
     refine Ap ?_
     refine Bb h11 ?_
     refine Ce (c := .sc (.bool b.fHasWill)) B2 (A7 rfl) rfl ?_
     refine Bb h11 ?_
     refine M8 (v := .sc (.bool (a.fHasWill == b.fHasWill))) (fun k => rfl) ?_
     refine Dh h11 (Ke q11 h11) ?_
     exact rfl
    ·refine Bd h11 ?_
     refine Bd h11 ?_
     refine Bd h11 ?_
     refine Bd h11 ?_
     refine Bd h11 ?_
     refine Df h11 (Ko q11 h11) ?_
     exact rfl
   intro b11 q11
   apply B7 (b11 && (a.fWTopic.toList == b.fWTopic.toList))
   ·intro b12 q12
    refine Ai (b11) (fun h12 => ?_) (fun h12 => ?_)
    ·refine Bb h12 ?_
     refine Ap ?_
     refine Bb h12 ?_
     refine Ce (c := .sc (.string a.fWTopic)) B1 (A7 rfl) rfl ?_
     refine Bb h12 ?_
     refine Ap ?_
     refine Bb h12 ?_
     refine Ce (c := .sc (.string b.fWTopic)) B2 (A7 rfl) rfl ?_
     refine Bb h12 ?_
     refine Bf (v := .sc (.bool (a.fWTopic.toList == b.fWTopic.toList))) (fun k => rfl) ?_
     refine Dh h12 (Ke q12 h12) ?_
     exact rfl
    ·refine Bd h12 ?_
     refine Bd h12 ?_
     refine Bd h12 ?_
     refine Bd h12 ?_
     refine Bd h12 ?_
     refine Df h12 (Ko q12 h12) ?_
     exact rfl
   intro b12 q12
   apply B7 (b12 && (a.fWBody.toList == b.fWBody.toList))
   ·intro b13 q13
    refine Ai (b12) (fun h13 => ?_) (fun h13 => ?_)
    ·refine Bb h13 ?_
     refine Ap ?_
     refine Bb h13 ?_
     refine Ce (c := Bj a.fWBody) B1 (A7 rfl) rfl ?_
     refine Bb h13 ?_
     refine Ap ?_
     refine Bb h13 ?_
     refine Ce (c := Bj b.fWBody) B2 (A7 rfl) rfl ?_
     refine Bb h13 ?_
     refine F5 rfl (Cl (Ik _ _ _) (Cl (Ik _ _ _) E6)) (Ur (n + 0) _ a.fWBody b.fWBody) ?_
     refine Dh h13 (Ke q13 h13) ?_
     exact rfl
    ·refine Bd h13 ?_
     refine Bd h13 ?_
     refine Bd h13 ?_
     refine Bd h13 ?_
     refine Bd h13 ?_
     refine Df h13 (Ko q13 h13) ?_
     exact rfl
   intro b13 q13
   apply B7 (b13 && (a.fWQos == b.fWQos))
   ·intro b14 q14
    refine Ai (b13) (fun h14 => ?_) (fun h14 => ?_)
    ·refine Bb h14 ?_
     refine Ap ?_
     refine Bb h14 ?_
     refine Ce (c := .sc (.int .i64 a.fWQos)) B1 (A7 rfl) rfl ?_
     refine Bb h14 ?_
     refine Ap ?_
     refine Bb h14 ?_
     refine Ce (c := .sc (.int .i64 b.fWQos)) B2 (A7 rfl) rfl ?_
     refine Bb h14 ?_
     refine Bf (v := .sc (.bool (a.fWQos == b.fWQos))) (fun k => rfl) ?_
     refine Dh h14 (Ke q14 h14) ?_
     exact rfl
    ·refine Bd h14 ?_
     refine Bd h14 ?_
     refine Bd h14 ?_
     refine Bd h14 ?_
     refine Bd h14 ?_
     refine Df h14 (Ko q14 h14) ?_
     exact rfl
   intro b14 q14
   apply B7 (b14 && (a.fWRetain == b.fWRetain))
   ·intro b15 q15
    refine Ai (b14) (fun h15 => ?_) (fun h15 => ?_)
    ·refine Bb h15 ?_
     refine Ap ?_
     refine Bb h15 ?_
     refine Ce (c := .sc (.bool a.fWRetain)) B1 (A7 rfl) rfl ?_
     refine Bb h15 ?_
     refine Ap ?_
     refine Bb h15 ?_
     refine Ce (c := .sc (.bool b.fWRetain)) B2 (A7 rfl) rfl ?_
     refine Bb h15 ?_
     refine M8 (v := .sc (.bool (a.fWRetain == b.fWRetain))) (fun k => rfl) ?_
     refine Dh h15 (Ke q15 h15) ?_
     exact rfl
    ·refine Bd h15 ?_
     refine Bd h15 ?_
     refine Bd h15 ?_
     refine Bd h15 ?_
     refine Bd h15 ?_
     refine Df h15 (Ko q15 h15) ?_
     exact rfl
   intro b15 q15
   apply B7 (b15 && (a.fHasUser == b.fHasUser))
   ·intro b16 q16
    refine Ai (b15) (fun h16 => ?_) (fun h16 => ?_)
    ·refine Bb h16 ?_
     refine Ap ?_
     refine Bb h16 ?_
     refine Ce (c := .sc (.bool a.fHasUser)) B1 (A7 rfl) rfl ?_
     refine Bb h16 ?_
     refine Ap ?_
     refine Bb h16 ?_
     refine Ce (c := .sc (.bool b.fHasUser)) B2 (A7 rfl) rfl ?_
     refine Bb h16 ?_
     refine M8 (v := .sc (.bool (a.fHasUser == b.fHasUser))) (fun k => rfl) ?_
     refine Dh h16 (Ke q16 h16) ?_
     exact rfl
    ·refine Bd h16 ?_
     refine Bd h16 ?_
     refine Bd h16 ?_
     refine Bd h16 ?_
     refine Bd h16 ?_
     refine Df h16 (Ko q16 h16) ?_
     exact rfl
   intro b16 q16
   apply B7 (b16 && (a.fUser.toList == b.fUser.toList))
   ·intro b17 q17
    refine Ai (b16) (fun h17 => ?_) (fun h17 => ?_)
    ·refine Bb h17 ?_
     refine Ap ?_
     refine Bb h17 ?_
     refine Ce (c := .sc (.string a.fUser)) B1 (A7 rfl) rfl ?_
     refine Bb h17 ?_
     refine Ap ?_
     refine Bb h17 ?_
     refine Ce (c := .sc (.string b.fUser)) B2 (A7 rfl) rfl ?_
     refine Bb h17 ?_
     refine Bf (v := .sc (.bool (a.fUser.toList == b.fUser.toList))) (fun k => rfl) ?_
     refine Dh h17 (Ke q17 h17) ?_
     exact rfl
    ·refine Bd h17 ?_
     refine Bd h17 ?_
     refine Bd h17 ?_
     refine Bd h17 ?_
     refine Bd h17 ?_
     refine Df h17 (Ko q17 h17) ?_
     exact rfl
   intro b17 q17
   apply B7 (b17 && (a.fHasPass == b.fHasPass))
   ·intro b18 q18
    refine Ai (b17) (fun h18 => ?_) (fun h18 => ?_)
    ·refine Bb h18 ?_
     refine Ap ?_
     refine Bb h18 ?_
     refine Ce (c := .sc (.bool a.fHasPass)) B1 (A7 rfl) rfl ?_
     refine Bb h18 ?_
     refine Ap ?_
     refine Bb h18 ?_
     refine Ce (c := .sc (.bool b.fHasPass)) B2 (A7 rfl) rfl ?_
     refine Bb h18 ?_
     refine M8 (v := .sc (.bool (a.fHasPass == b.fHasPass))) (fun k => rfl) ?_
     refine Dh h18 (Ke q18 h18) ?_
     exact rfl
    ·refine Bd h18 ?_
     refine Bd h18 ?_
     refine Bd h18 ?_
     refine Bd h18 ?_
     refine Bd h18 ?_
     refine Df h18 (Ko q18 h18) ?_
     exact rfl
   intro b18 q18
   apply B7 (b18 && (a.fPass.toList == b.fPass.toList))
   ·intro b19 q19
    refine Ai (b18) (fun h19 => ?_) (fun h19 => ?_)
    ·refine Bb h19 ?_
     refine Ap ?_
     refine Bb h19 ?_
     refine Ce (c := Bj a.fPass) B1 (A7 rfl) rfl ?_
     refine Bb h19 ?_
     refine Ap ?_
     refine Bb h19 ?_
     refine Ce (c := Bj b.fPass) B2 (A7 rfl) rfl ?_
     refine Bb h19 ?_
     refine F5 rfl (Cl (Ik _ _ _) (Cl (Ik _ _ _) E6)) (Ur (n + 0) _ a.fPass b.fPass) ?_
     refine Dh h19 (Ke q19 h19) ?_
     exact rfl
    ·refine Bd h19 ?_
     refine Bd h19 ?_
     refine Bd h19 ?_
     refine Bd h19 ?_
     refine Bd h19 ?_
     refine Df h19 (Ko q19 h19) ?_
     exact rfl
   intro b19 q19
   apply B7 (b19 && (a.fCode == b.fCode))
   ·intro b20 q20
    refine Ai (b19) (fun h20 => ?_) (fun h20 => ?_)
    ·refine Bb h20 ?_
     refine Ap ?_
     refine Bb h20 ?_
     refine Ce (c := .sc (.int .i64 a.fCode)) B1 (A7 rfl) rfl ?_
     refine Bb h20 ?_
     refine Ap ?_
     refine Bb h20 ?_
     refine Ce (c := .sc (.int .i64 b.fCode)) B2 (A7 rfl) rfl ?_
     refine Bb h20 ?_
     refine Bf (v := .sc (.bool (a.fCode == b.fCode))) (fun k => rfl) ?_
     refine Dh h20 (Ke q20 h20) ?_
     exact rfl
    ·refine Bd h20 ?_
     refine Bd h20 ?_
     refine Bd h20 ?_
     refine Bd h20 ?_
     refine Bd h20 ?_
     refine Df h20 (Ko q20 h20) ?_
     exact rfl
   intro b20 q20
   apply B7 (b20 && (a.fPresent == b.fPresent))
   ·intro b21 q21
    refine Ai (b20) (fun h21 => ?_) (fun h21 => ?_)
    ·refine Bb h21 ?_
     refine Ap ?_
     refine Bb h21 ?_
     refine Ce (c := .sc (.bool a.fPresent)) B1 (A7 rfl) rfl ?_
     refine Bb h21 ?_
     refine Ap ?_
     refine Bb h21 ?_
     refine Ce (c := .sc (.bool b.fPresent)) B2 (A7 rfl) rfl ?_
     refine Bb h21 ?_
     refine M8 (v := .sc (.bool (a.fPresent == b.fPresent))) (fun k => rfl) ?_
     refine Dh h21 (Ke q21 h21) ?_
     exact rfl
    ·refine Bd h21 ?_
     refine Bd h21 ?_
     refine Bd h21 ?_
     refine Bd h21 ?_
     refine Bd h21 ?_
     refine Df h21 (Ko q21 h21) ?_
     exact rfl
   intro b21 q21
   subst_vars; rfl
 have key := O5 (β := AV) Th (fun _ => rfl) (by decide) (fun z => .sc (.int .i64 z)) (fun p k => C2 false 1 p H k) (fun x r k => ldI x r H k) (fun x y k => Fh .neq x y k) eqI (fun x y k => neI x y k) a.fCodes b.fCodes hq2 hl2 (fun m i => Ka (PR (n + 1) AV) (n + 1) (fun x H => Bc At E0.tp ty H x) m (.ptr i1 0) (.ptr i2 0) i H) (some (.sc (.bool false))) (some (.sc (.bool (G5 a b)))) hL a.fCodes b.fCodes [] [] (n + 1) rfl rfl rfl (by omega)
 simp only [List.length_nil, Int.natCast_zero] at key
 refine key.trans ?_
 cases Jk eqI a.fCodes b.fCodes <;> rfl
theorem AeJ (n : Nat) (hn : 1048576 < n) (ty : Nat) (a b : B8) (H : Ac) (i1 i2 : Nat) (B1 : H[i1]? = some ⟨C7 a, true, true⟩) (B2 : H[i2]? = some ⟨C7 b, true, true⟩) (hl1 : a.fNames.length ≤ 1048576) (hq1 : a.fNames.length = b.fNames.length) (hl2 : a.fCodes.length ≤ 1048576) (hq2 : a.fCodes.length = b.fCodes.length) : It (PR (n + 1) AV) (n + 1) (fun x H => Bc At E0.tp ty H x) (n + 1) (.ptr i1 0) (.ptr i2 0) (.sc (.int .i64 0)) H = some (.sc (.bool (if Jk Vn a.fNames b.fNames then (if Jk eqI a.fCodes b.fCodes then (G5 a b) else false) else false))) := by
 have hL : ∀ m i, It (PR (n + 1) AV) (n + 1) (fun x H => Bc At E0.tp ty H x) (m + 1) (.ptr i1 0) (.ptr i2 0) i H = Fh .lss i (.sc (.int .i64 a.fNames.length)) fun t14 => Ih t14 (E7 1 (Al AaL a.fNames) i fun t19 => C2 false 1 t19 H fun t20 => E7 1 (Al AaL b.fNames) i fun t23 => C2 false 1 t23 H fun t24 => (fun x y k => Fh .neq x y k) t20 t24 fun t25 => Ih t25 (some (.sc (.bool false))) (Fh .add i (.sc (.int .i64 1)) fun t16 => It (PR (n + 1) AV) (n + 1) (fun x H => Bc At E0.tp ty H x) m (.ptr i1 0) (.ptr i2 0) t16 H)) (some (.sc (.bool (if Jk eqI a.fCodes b.fCodes then (G5 a b) else false)))) := by
  intro m i
  show (PR (n + 1) AV).fadr 23 (.ptr i1 0) _ = _
  simp only [Bi, A4, A9, Ep, Er, Aw, Bx, Ch, Ca, Cc]
  refine Ap ?_
  refine Ce (c := Mj a.fNames) B1 (A7 rfl) rfl ?_
  refine Do ?_
  congr 1
  funext t
  congr 1
  ·refine Ap ?_
   refine Ce (c := Mj a.fNames) B1 (A7 rfl) rfl ?_
   rw [Uk]
   congr 1
   funext t2
   congr 1
   funext t3
   refine Ap ?_
   refine Ce (c := Mj b.fNames) B2 (A7 rfl) rfl ?_
   rw [Uk]
   rfl
  ·skip
   exact Afx n hn ty a b H i1 i2 B1 B2 hl2 hq2
 have key := O5 (β := AV) AaL (fun _ => rfl) (by decide) (fun z => .sc (.string z)) (fun p k => C2 false 1 p H k) (fun x r k => ldS x r H k) (fun x y k => Fh .neq x y k) Vn (fun x y k => neS x y k) a.fNames b.fNames hq1 hl1 (fun m i => It (PR (n + 1) AV) (n + 1) (fun x H => Bc At E0.tp ty H x) m (.ptr i1 0) (.ptr i2 0) i H) (some (.sc (.bool false))) (some (.sc (.bool (if Jk eqI a.fCodes b.fCodes then (G5 a b) else false)))) hL a.fNames b.fNames [] [] (n + 1) rfl rfl rfl (by omega)
 simp only [List.length_nil, Int.natCast_zero] at key
 refine key.trans ?_
 cases Jk Vn a.fNames b.fNames <;> rfl
theorem AeI (n : Nat) (hn : 1048576 < n) (ty : Nat) (a b : B8) (H : Ac) (i1 i2 : Nat) (B1 : H[i1]? = some ⟨C7 a, true, true⟩) (B2 : H[i2]? = some ⟨C7 b, true, true⟩) (hl0 : a.fWants.length ≤ 1048576) (hq0 : a.fWants.length = b.fWants.length) (hl1 : a.fNames.length ≤ 1048576) (hq1 : a.fNames.length = b.fNames.length) (hl2 : a.fCodes.length ≤ 1048576) (hq2 : a.fCodes.length = b.fCodes.length) : Is (PR (n + 1) AV) (n + 1) (fun x H => Bc At E0.tp ty H x) (n + 1) (.ptr i1 0) (.ptr i2 0) (.sc (.int .i64 0)) H = some (.sc (.bool (if Jk N9 a.fWants b.fWants then (if Jk Vn a.fNames b.fNames then (if Jk eqI a.fCodes b.fCodes then (G5 a b) else false) else false) else false))) := by
 have hL : ∀ m i, Is (PR (n + 1) AV) (n + 1) (fun x H => Bc At E0.tp ty H x) (m + 1) (.ptr i1 0) (.ptr i2 0) i H = Fh .lss i (.sc (.int .i64 a.fWants.length)) fun t14 => Ih t14 (E7 2 (Al Ez a.fWants) i fun t19 => C2 true 2 t19 H fun t20 => E7 2 (Al Ez b.fWants) i fun t23 => C2 true 2 t23 H fun t24 => (fun x y k => Qz .neq [1, 0] x y k) t20 t24 fun t25 => Ih t25 (some (.sc (.bool false))) (Fh .add i (.sc (.int .i64 1)) fun t16 => Is (PR (n + 1) AV) (n + 1) (fun x H => Bc At E0.tp ty H x) m (.ptr i1 0) (.ptr i2 0) t16 H)) (some (.sc (.bool (if Jk Vn a.fNames b.fNames then (if Jk eqI a.fCodes b.fCodes then (G5 a b) else false) else false)))) := by
  intro m i
  show (PR (n + 1) AV).fadr 22 (.ptr i1 0) _ = _
  simp only [Bi, A4, A9, Ep, Er, Aw, Bx, Ch, Ca, Cc]
  refine Ap ?_
  refine Ce (c := Al Ez a.fWants) B1 (A7 rfl) rfl ?_
  refine Do ?_
  congr 1
  funext t
  congr 1
  ·refine Ap ?_
   refine Ce (c := Al Ez a.fWants) B1 (A7 rfl) rfl ?_
   congr 1
   funext t2
   congr 1
   funext t3
   refine Ap ?_
   refine Ce (c := Al Ez b.fWants) B2 (A7 rfl) rfl ?_
   rfl
  ·skip
   exact AeJ n hn ty a b H i1 i2 B1 B2 hl1 hq1 hl2 hq2
 have key := O5 (β := AV) Ez (Ut) (by decide) (fun x => .agg (Ez x)) (fun p k => C2 true 2 p H k) (fun x r k => Xf 2 _ _ H k (Ut x)) (fun x y k => Qz .neq [1, 0] x y k) N9 (fun x y k => Ae7 _ _ _ _ (AbW x y) k) a.fWants b.fWants hq0 hl0 (fun m i => Is (PR (n + 1) AV) (n + 1) (fun x H => Bc At E0.tp ty H x) m (.ptr i1 0) (.ptr i2 0) i H) (some (.sc (.bool false))) (some (.sc (.bool (if Jk Vn a.fNames b.fNames then (if Jk eqI a.fCodes b.fCodes then (G5 a b) else false) else false)))) hL a.fWants b.fWants [] [] (n + 1) rfl rfl rfl (by omega)
 simp only [List.length_nil, Int.natCast_zero] at key
 refine key.trans ?_
 cases Jk N9 a.fWants b.fWants <;> rfl
theorem Ml (n : Nat) (hn : 1048576 < n) (ty : Nat) (a : B8) (b : B8) (hl0 : a.fWants.length ≤ 1048576) (hl1 : a.fNames.length ≤ 1048576) (hl2 : a.fCodes.length ≤ 1048576) : Di E0 (n + 2) ty 182 [.agg (C7 a), .agg (C7 b)] = some (.sc (.bool (G7 a b))) := by
 rw [Bu, Afm, f182]
 try simp only [De, Cj, Bi, A4, A6, A9, Ep, Er, Ew, Aw, Bx, Ch, Ca, Dx, Cc, Fn, D1, Dj, Bm, Be, Fm, Cy, Eg, E8]
 refine Qu (K9 _) fun iB1 eB1 B1 => ?_
 refine Qu (K9 _) fun iB2 eB2 B2 => ?_
 replace B1 := Pa B1 [⟨C7 b, true, true⟩]
 refine Ap ?_
 refine Ce (c := Al Ez a.fWants) B1 (A7 rfl) rfl ?_
 refine Do ?_
 refine Ap ?_
 refine Ce (c := Al Ez b.fWants) B2 (A7 rfl) rfl ?_
 refine Do ?_
 refine Bf (v := .sc (.bool ((a.fWants.length : Int) != (b.fWants.length : Int)))) (fun k => rfl) ?_
 apply B7 (((a.fWants.length : Int) != (b.fWants.length : Int)) || ((a.fNames.length : Int) != (b.fNames.length : Int)))
 ·intro b3 q3
  refine Ai (((a.fWants.length : Int) != (b.fWants.length : Int))) (fun h3 => ?_) (fun h3 => ?_)
  ·refine Du h3 ?_
   refine Du h3 ?_
   refine Du h3 ?_
   refine Du h3 ?_
   refine Du h3 ?_
   refine Du h3 ?_
   refine Du h3 ?_
   refine Dh h3 (mOT q3 h3) ?_
   exact rfl
  ·refine Dm h3 ?_
   refine Ap ?_
   refine Dm h3 ?_
   refine Ce (c := Mj a.fNames) B1 (A7 rfl) rfl ?_
   refine Dm h3 ?_
   refine Do ?_
   refine Dm h3 ?_
   refine Ap ?_
   refine Dm h3 ?_
   refine Ce (c := Mj b.fNames) B2 (A7 rfl) rfl ?_
   refine Dm h3 ?_
   refine Do ?_
   refine Dm h3 ?_
   refine Bf (v := .sc (.bool ((a.fNames.length : Int) != (b.fNames.length : Int)))) (fun k => rfl) ?_
   refine Df h3 (mOF q3 h3) ?_
   exact rfl
 intro b3 q3
 apply B7 (b3 || ((a.fCodes.length : Int) != (b.fCodes.length : Int)))
 ·intro b4 q4
  refine Ai (b3) (fun h4 => ?_) (fun h4 => ?_)
  ·refine Du h4 ?_
   refine Du h4 ?_
   refine Du h4 ?_
   refine Du h4 ?_
   refine Du h4 ?_
   refine Du h4 ?_
   refine Du h4 ?_
   refine Dh h4 (mOT q4 h4) ?_
   exact rfl
  ·refine Dm h4 ?_
   refine Ap ?_
   refine Dm h4 ?_
   refine Ce (c := Dn a.fCodes) B1 (A7 rfl) rfl ?_
   refine Dm h4 ?_
   refine Do ?_
   refine Dm h4 ?_
   refine Ap ?_
   refine Dm h4 ?_
   refine Ce (c := Dn b.fCodes) B2 (A7 rfl) rfl ?_
   refine Dm h4 ?_
   refine Do ?_
   refine Dm h4 ?_
   refine Bf (v := .sc (.bool ((a.fCodes.length : Int) != (b.fCodes.length : Int)))) (fun k => rfl) ?_
   refine Df h4 (mOF q4 h4) ?_
   exact rfl
 intro b4 q4
 refine Ai (b4) (fun h5 => ?_) (fun h5 => ?_)
 ·refine Fo h5 ?_
  exact Gz (by subst_vars; simp only [G7, Oe, Pv]; by_cases e0 : a.fWants.length = b.fWants.length <;> by_cases e1 : a.fNames.length = b.fNames.length <;> by_cases e2 : a.fCodes.length = b.fCodes.length <;> simp_all)
 ·refine Gb h5 ?_
  have l0 : a.fWants.length = b.fWants.length := by (subst_vars; simp at *; omega)
  have l1 : a.fNames.length = b.fNames.length := by (subst_vars; simp at *; omega)
  have l2 : a.fCodes.length = b.fCodes.length := by (subst_vars; simp at *; omega)
  refine (AeI n hn ty a b _ _ _ B1 B2 hl0 l0 hl1 l1 hl2 l2).trans ?_
  simp only [G7, Oe, Pv, l0, l1, l2, if_true]
  cases Jk N9 a.fWants b.fWants <;> cases Jk Vn a.fNames b.fNames <;> cases Jk eqI a.fCodes b.fCodes <;> simp
end
end Go.Proofs.Ytjiahcekpohehaa.Abs
