/- What the proof needs, part 4: a sound evaluator over trees, the program's functions on it, and what they come to. -/
import Derived.Test.YtejjggnchdldoaaGreatDoorMc
import Derived.Lib.TrimUEq
import Derived.Lib.ValidLaws
import Derived.Lib.MapLaws
set_option linter.unusedVariables false
set_option linter.unusedSimpArgs false
namespace Go.Proofs.YtejjggnchdldoaaGreatDoor.Abs
open Go
section gen
variable {ti : Nat → Option TI} {tp : Nat → Option (List Nat)}
def okLW (f : Nat → AV → Prop) : List Nat → List AV → Prop
 | [], [] => True
 | t :: ts, x :: xs => f t x ∧ okLW f ts xs
 | _, _ => False
def okW (ti : Nat → Option TI) (tp : Nat → Option (List Nat)) : Nat → Nat → AV → Prop
 | 0, _, _ => False
 | d + 1, ty, x =>
  match x with
  | .sc _ => True
  | .ro n cells => ∃ i j, ti ty = some i ∧ ti i.elem = some j ∧ cells.length = n * j.size ∧ okLW (okW ti tp d) (List.replicate n j.cty).flatten cells
  | .agg cs => ∃ i, ti ty = some i ∧ okLW (okW ti tp d) i.cty cs
  | .tup cs => ∃ ts, tp ty = some ts ∧ okLW (okW ti tp d) ts cs
  | _ => False
theorem okLW_len {f : Nat → AV → Prop} : ∀ {ts : List Nat} {cs : List AV}, okLW f ts cs → ts.length = cs.length
 | [], [], _ => rfl
 | _ :: ts, _ :: cs, h => by rw [List.length_cons, List.length_cons, okLW_len h.2]
theorem okLW_append {f : Nat → AV → Prop} : ∀ {ts : List Nat} {cs : List AV} {ts' : List Nat} {cs' : List AV}, okLW f ts cs → okLW f ts' cs' → okLW f (ts ++ ts') (cs ++ cs')
 | [], [], _, _, _, h => h
 | _ :: ts, _ :: cs, _, _, h, h' => ⟨h.1, okLW_append h.2 h'⟩
theorem okLW_rows {α : Type} {f : Nat → AV → Prop} {cty : List Nat} {enc : α → List AV} : ∀ (l : List α), (∀ x ∈ l, okLW f cty (enc x)) → okLW f (List.replicate l.length cty).flatten (l.map enc).flatten
 | [], _ => by simp [okLW]
 | x :: l, h => by
  rw [List.length_cons, List.replicate_succ, List.flatten_cons, List.map_cons, List.flatten_cons]
  exact okLW_append (h x List.mem_cons_self) (okLW_rows l fun y hy => h y (List.mem_cons_of_mem _ hy))
theorem okLW_okL {f g : Nat → AV → Prop} (hfg : ∀ t x, f t x → g t x) : ∀ {ts : List Nat} {cs : List AV}, okLW f ts cs → okL g ts cs
 | [], [], _ => trivial
 | _ :: ts, _ :: cs, h => ⟨hfg _ _ h.1, okLW_okL hfg h.2⟩
theorem okW_okTr : ∀ (d : Nat) (ty : Nat) (x : AV), okW ti tp d ty x → okTr ti tp d ty x
 | 0, _, _, h => h
 | d + 1, ty, x, h => by
  cases x with
  | sc v => trivial
  | ro n cells =>
   obtain ⟨i, j, h1, h2, h3, h4⟩ := h
   show cells.length = n * (((ti ty).bind fun i => ti i.elem).getD default).size ∧ _
   simp only [h1, Option.bind_some, h2, Option.getD_some]
   exact ⟨h3, okLW_okL (okW_okTr d) h4⟩
  | agg cs =>
   obtain ⟨i, h1, h2⟩ := h
   show okL _ ((ti ty).getD default).cty cs
   rw [h1]
   exact okLW_okL (okW_okTr d) h2
  | tup cs =>
   obtain ⟨ts, h1, h2⟩ := h
   show okL _ ((tp ty).getD []) cs
   rw [h1]
   exact okLW_okL (okW_okTr d) h2
  | _ => cases h
theorem own_instL {H : Heap} {d : Nat} (hd : ∀ ty t N, okW ti tp d ty t → Lies H N (instT ti tp N ty t).2 → (∀ b ∈ (instT ti tp N ty t).2, b.live = true ∧ b.app = true) → ownT ti tp H d ty (instT ti tp N ty t).1 = some (t, List.range' N (instT ti tp N ty t).2.length)) :
  ∀ (ts : List Nat) (cs : List AV) (N : Nat), okLW (okW ti tp d) ts cs → Lies H N (instL ti tp N ts cs).2 → (∀ b ∈ (instL ti tp N ts cs).2, b.live = true ∧ b.app = true) → ownL (ownT ti tp H d) ts (instL ti tp N ts cs).1 = some (cs, List.range' N (instL ti tp N ts cs).2.length)
 | [], [], N, _, _, _ => rfl
 | t :: ts, x :: cs, N, h, hl, hb => by
  simp only [instL, List.headD_cons, List.tail_cons] at hl hb ⊢
  have h1 := hd t x N h.1 hl.left fun b hb' => hb b (List.mem_append_left _ hb')
  have h2 := own_instL hd ts cs _ h.2 hl.right fun b hb' => hb b (List.mem_append_right _ hb')
  have e := List.range'_append (s := N) (m := (instT ti tp N t x).2.length) (n := (instL ti tp (N + (instT ti tp N t x).2.length) ts cs).2.length) (step := 1)
  rw [Nat.one_mul] at e
  simp only [ownL, h1, h2, Option.bind_some, List.length_append, e]
mutual
theorem inst_live : ∀ (x : AV) (N ty : Nat), ∀ b ∈ (instT ti tp N ty x).2, b.live = true ∧ b.app = true
 | .sc v, N, ty => by intro b h; cases h
 | .ro n cells, N, ty => by
  intro b h
  simp only [instT, List.mem_cons] at h
  rcases h with rfl | h
  ·exact ⟨rfl, rfl⟩
  ·exact instL_live cells _ _ b h
 | .agg cs, N, ty => fun b h => instL_live cs _ _ b h
 | .tup cs, N, ty => fun b h => instL_live cs _ _ b h
 | .any, N, ty => by intro b h; cases h
 | .nl, N, ty => by intro b h; cases h
 | .sl .., N, ty => by intro b h; cases h
 | .ptr .., N, ty => by intro b h; cases h
 | .rp .., N, ty => by intro b h; cases h
 | .fn .., N, ty => by intro b h; cases h
theorem instL_live : ∀ (cs : List AV) (N : Nat) (ts : List Nat), ∀ b ∈ (instL ti tp N ts cs).2, b.live = true ∧ b.app = true
 | [], N, ts => by intro b h; cases h
 | x :: cs, N, ts => by
  intro b h
  simp only [instL, List.mem_append] at h
  rcases h with h | h
  ·exact inst_live x _ _ b h
  ·exact instL_live cs _ _ b h
end
theorem own_inst {H : Heap} : ∀ (d ty : Nat) (t : AV) (N : Nat), okW ti tp d ty t → Lies H N (instT ti tp N ty t).2 → ownT ti tp H d ty (instT ti tp N ty t).1 = some (t, List.range' N (instT ti tp N ty t).2.length)
 | 0, _, _, _, h, _ => by cases h
 | d + 1, ty, t, N, h, hl => by
  have ih := own_instL (H := H) (d := d) (ti := ti) (tp := tp) (fun ty t N h h' _ => own_inst d ty t N h h')
  cases t with
  | sc v => rfl
  | ro n cells =>
   obtain ⟨i, j, h1, h2, h3, h4⟩ := h
   have e : instT ti tp N ty (.ro n cells) = (.sl N 0 n j.size, ⟨(instL ti tp (N + 1) (List.replicate n j.cty).flatten cells).1, true, true⟩ :: (instL ti tp (N + 1) (List.replicate n j.cty).flatten cells).2) := by
    simp only [instT, h1, Option.bind_some, h2, Option.getD_some]
   rw [e] at hl ⊢
   have hb := hl 0 _ rfl
   rw [Nat.add_zero] at hb
   have hv := ih (List.replicate n j.cty).flatten cells (N + 1) h4 hl.tail (instL_live _ _ _)
   have hlen := instL_len (ti := ti) (tp := tp) (N + 1) (List.replicate n j.cty).flatten cells
   have e2 : rdCells H N 0 (n * j.size) = some (instL ti tp (N + 1) (List.replicate n j.cty).flatten cells).1 := by
    simp only [rdCells, hb, if_true, List.drop_zero, Nat.zero_add]
    rw [if_pos (by rw [hlen, h3]; exact Nat.le_refl _), ← h3, ← hlen, List.take_length]
   have e3 : isApp H N = true := by simp only [isApp, hb]
   rw [ownT_sl]
   simp only [h1, h2, Option.bind_some, if_true, e2, e3, hv, List.length_cons]
   rw [List.range'_succ]
  | agg cs =>
   obtain ⟨i, h1, h2⟩ := h
   have e : instT ti tp N ty (.agg cs) = (.agg (instL ti tp N i.cty cs).1, (instL ti tp N i.cty cs).2) := by rw [instT_agg, h1]; rfl
   rw [e] at hl ⊢
   rw [ownT_agg]
   simp only [h1, Option.bind_some, ih i.cty cs N h2 hl (instL_live _ _ _)]
  | tup cs =>
   obtain ⟨ts, h1, h2⟩ := h
   have e : instT ti tp N ty (.tup cs) = (.tup (instL ti tp N ts cs).1, (instL ti tp N ts cs).2) := by rw [instT_tup, h1]; rfl
   rw [e] at hl ⊢
   rw [ownT_tup]
   simp only [h1, Option.bind_some, ih ts cs N h2 hl (instL_live _ _ _)]
  | _ => cases h
theorem Lies_in (A B X : List Blk) : Lies (A ++ B ++ X) A.length B := fun j b hj => by
 have hlt := (List.getElem?_eq_some_iff.1 hj).1
 rw [List.append_assoc, List.getElem?_append_right (by omega), Nat.add_sub_cancel_left, List.getElem?_append_left hlt]
 exact hj
theorem Lies_end (A B : List Blk) : Lies (A ++ B) A.length B := by
 have := Lies_in A B []
 rwa [List.append_nil] at this
theorem own_ret (A : List Blk) (ty : Nat) (t : AV) (h : okW ti tp 8 ty t) : ownTree ti tp ty (A ++ (instT ti tp A.length ty t).2) (instT ti tp A.length ty t).1 = some t := by
 rw [ownTree, own_inst 8 ty t A.length h (Lies_end _ _)]
 simp only [Option.bind_some]
 rw [if_pos (List.nodup_range')]
def Vw (H : Heap) (x v : AV) : Prop := ∀ X : List Blk, viewV (H ++ X) 8 x = some v
theorem Vw.grow {H : Heap} {x v : AV} (h : Vw H x v) (X : List Blk) : Vw (H ++ X) x v := fun Y => by
 rw [List.append_assoc]
 exact h _
theorem Vw.now {H : Heap} {x v : AV} (h : Vw H x v) : viewV H 8 x = some v := by
 have := h []
 rwa [List.append_nil] at this
theorem Vw_inst (H : Heap) (ty : Nat) (t : AV) (h : okW ti tp 8 ty t) : Vw (H ++ (instT ti tp H.length ty t).2) (instT ti tp H.length ty t).1 t := fun X => view_inst 8 ty t H.length (okW_okTr 8 ty t h) (Lies_in _ _ _)
theorem Vw_sc (H : Heap) (v : Value) : Vw H (.sc v) (.sc v) := fun _ => rfl
theorem Vw_ro (H : Heap) (n : Nat) (cs : List AV) : Vw H (.ro n cs) (.ro n cs) := fun _ => rfl
def isFl : AV → Bool
 | .sc v => leafV v
 | .ro _ _ => true
 | _ => false
theorem fl_leaf {cs : List AV} (h : cs.all isFl = true) : cs.all isLeaf = true := by
 rw [List.all_eq_true] at h ⊢
 intro x hx
 have := h x hx
 cases x <;> simp_all [isFl, isLeaf]
theorem fl_cells {cs : List AV} (h : cs.all isFl = true) : cellsA (.agg cs) = some cs := by
 show (if cs.all isLeaf then some cs else none) = _
 rw [if_pos (fl_leaf h)]
theorem fl_view {H : Heap} {d : Nat} : ∀ {cs : List AV}, cs.all isFl = true → cs.mapM (viewV H (d + 1)) = some cs
 | [], _ => rfl
 | x :: cs, h => by
  rw [List.all_cons, Bool.and_eq_true] at h
  have e : viewV H (d + 1) x = some x := by
   have := h.1
   cases x <;> first | rfl | (exfalso; simp [isFl] at this)
  simp only [List.mapM_cons, e, fl_view h.2, Option.pure_def, Option.bind_eq_bind, Option.bind_some]
theorem Vw_agg (H : Heap) {cs : List AV} (h : cs.all isFl = true) : Vw H (.agg cs) (.agg cs) := fun X => by
 rw [viewV_agg, fl_view h]
 rfl
theorem instL_leaf : ∀ (cs : List AV) (N : Nat) (ts : List Nat), cs.all isFl = true → (instL ti tp N ts cs).1.all isLeaf = true
 | [], _, _, _ => rfl
 | x :: cs, N, ts, h => by
  rw [List.all_cons, Bool.and_eq_true] at h
  simp only [instL, List.all_cons, Bool.and_eq_true]
  refine ⟨?_, instL_leaf cs _ _ h.2⟩
  have := h.1
  cases x <;> first | exact this | rfl | (exfalso; simp [isFl] at this)
theorem instL_append : ∀ (ts : List Nat) (cs : List AV) (ts' : List Nat) (cs' : List AV) (N : Nat), ts.length = cs.length →
  instL ti tp N (ts ++ ts') (cs ++ cs') = ((instL ti tp N ts cs).1 ++ (instL ti tp (N + (instL ti tp N ts cs).2.length) ts' cs').1, (instL ti tp N ts cs).2 ++ (instL ti tp (N + (instL ti tp N ts cs).2.length) ts' cs').2)
 | [], [], ts', cs', N, _ => by simp [instL]
 | t :: ts, x :: cs, ts', cs', N, h => by
  have ih := instL_append ts cs ts' cs' (N + (instT ti tp N t x).2.length) (by simpa using h)
  simp only [List.cons_append, instL, List.headD_cons, List.tail_cons, ih, List.length_append, List.append_assoc, Nat.add_assoc]
end gen
section ops
variable {β : Type}
theorem iadr_ro (w len : Nat) (cells : List AV) (i : Nat) (k : AV → Option β) (h : i < len) (h2 : i * w < cells.length) : pIadr w (.ro len cells) (.sc (.int .i64 i)) k = k (.rp (cells.drop (i * w))) := by
 simp only [pIadr, asI, Option.bind_some, Int.toNat_natCast]
 rw [if_pos ⟨by omega, by omega⟩, if_pos h2]
theorem iadr_sl (w len id off : Nat) (i : Nat) (k : AV → Option β) (h : i < len) : pIadr w (.sl id off len w) (.sc (.int .i64 i)) k = k (.ptr id (off + i * w)) := by
 simp only [pIadr, asI, Option.bind_some, Int.toNat_natCast, if_true]
 rw [if_pos ⟨by omega, by omega⟩]
theorem ld_rp (w : Nat) (cs r : List AV) (H : Heap) (k : AV → Option β) (h : cs.length = w) : pLoad true w (.rp (cs ++ r)) H k = k (.agg cs) := by
 simp only [pLoad, List.length_append, h, Nat.le_add_right, if_true, List.take_left' h]
theorem ld1_rp (c : AV) (r : List AV) (H : Heap) (k : AV → Option β) : pLoad false 1 (.rp (c :: r)) H k = k c := by
 simp only [pLoad, List.length_cons, Nat.le_add_left, if_true, Bool.false_eq_true, if_false]
 rfl
theorem st_at (w id off : Nat) (y : AV) (b : Blk) (cs : List AV) (H : Heap) (k : Heap → Option β) (h : H[id]? = some b) (hc : cellsA y = some cs) (hl : cs.length = w) (ho : off + w ≤ b.cells.length) (hb : b.live = true) : pStore w (.ptr id off) y H k = k (H.set id { b with cells := splice b.cells off cs }) := by
 simp only [pStore, h, hc, Option.bind_some, hb, if_true, hl, ho]
theorem splice_mid (A z C cs : List AV) (h : z.length = cs.length) : splice (A ++ (z ++ C)) A.length cs = A ++ (cs ++ C) := by
 unfold splice
 rw [List.take_left' rfl, ← List.append_assoc A z C, List.drop_append_of_le_length (by rw [List.length_append]; omega), ← h, ← List.length_append, List.drop_length, List.nil_append, List.append_assoc]
theorem lss_nat (a b : Nat) (k : AV → Option β) : pBin .lss (.sc (.int .i64 a)) (.sc (.int .i64 b)) k = k (.sc (.bool (decide (a < b)))) := by
 show k (.sc (.bool (decide ((a : Int) < (b : Int))))) = _
 rw [show decide ((a : Int) < (b : Int)) = decide (a < b) from by simp]
theorem inc_nat (a : Nat) (k : AV → Option β) (h : a < 9223372036854775807) : pBin .add (.sc (.int .i64 a)) (.sc (.int .i64 1)) k = k (.sc (.int .i64 (a + 1 : Nat))) := by
 show k (.sc (.int .i64 (IntKind.i64.wrap ((a : Int) + 1)))) = _
 have e : IntKind.i64.wrap ((a : Int) + 1) = ((a + 1 : Nat) : Int) := by
  rw [IntKind.wrap_i64, Int.natCast_add]
  simp only [Int.cast_ofNat_Int]
  omega
 rw [e]
theorem cond_b (b : Bool) (x y : Option β) : pCond (.sc (.bool b)) x y = if b then x else y := rfl
theorem len_ro (n : Nat) (cs : List AV) (k : AV → Option β) : pLen (.ro n cs) k = k (.sc (.int .i64 n)) := rfl
theorem wrap64 (n : Int) (h0 : -9223372036854775808 ≤ n) (h1 : n ≤ 9223372036854775807) : IntKind.i64.wrap n = n := by
 rw [IntKind.wrap_i64]; omega
theorem sub64 (a b : Int) (k : AV → Option β) (h0 : -9223372036854775808 ≤ a - b) (h1 : a - b ≤ 9223372036854775807) : pBin .sub (.sc (.int .i64 a)) (.sc (.int .i64 b)) k = k (.sc (.int .i64 (a - b))) := by
 show k (.sc (.int .i64 (IntKind.i64.wrap (a - b)))) = _
 rw [wrap64 _ h0 h1]
theorem lss64 (a b : Int) (k : AV → Option β) : pBin .lss (.sc (.int .i64 a)) (.sc (.int .i64 b)) k = k (.sc (.bool (decide (a < b)))) := rfl
theorem drop_rows {α : Type} {w : Nat} {enc : α → List AV} (hw : ∀ x, (enc x).length = w) (pre r : List α) : ((pre ++ r).map enc).flatten.drop (pre.length * w) = (r.map enc).flatten := by
 have hl : ((pre.map enc).flatten).length = pre.length * w := by
  induction pre with
  | nil => simp
  | cons x pre ih => rw [List.map_cons, List.flatten_cons, List.length_append, ih, hw, List.length_cons, Nat.succ_mul, Nat.add_comm]
 rw [List.map_append, List.flatten_append, List.drop_append_of_le_length (by omega), ← hl, List.drop_length, List.nil_append]
theorem rows_len {α : Type} {w : Nat} {enc : α → List AV} (hw : ∀ x, (enc x).length = w) (l : List α) : ((l.map enc).flatten).length = l.length * w := by
 induction l with
 | nil => simp
 | cons x l ih => rw [List.map_cons, List.flatten_cons, List.length_append, ih, hw, List.length_cons, Nat.succ_mul, Nat.add_comm]
theorem el_ro {α : Type} {w : Nat} {enc : α → List AV} (hw : ∀ x, (enc x).length = w) (h0 : 0 < w) (pre : List α) (x : α) (r : List α) (k : AV → Option β) :
  pIadr w (.ro (pre ++ x :: r).length ((pre ++ x :: r).map enc).flatten) (.sc (.int .i64 pre.length)) k = k (.rp (enc x ++ (r.map enc).flatten)) := by
 have hl := rows_len hw (pre ++ x :: r)
 have h1 : pre.length < (pre ++ x :: r).length := by simp
 rw [iadr_ro w _ _ pre.length k h1 (by rw [hl]; exact Nat.mul_lt_mul_of_pos_right h1 h0), drop_rows hw pre (x :: r), List.map_cons, List.flatten_cons]
theorem to_loop {α : Type} {n te g w : Nat} {cty : List Nat} (enc : α → List AV) (k : AV → Heap → Option β) (z : List AV) (hz : z.length = w) (hw : ∀ x, (enc x).length = w) (hc : cty.length = w) (h0 : 0 < w)
  (hte : ∃ i, ti0 te = some i ∧ i.cty = cty) (hfl : ∀ x, (enc x).all isFl = true) (hh : plainF g = false) (L : Nat → AV → AV → AV → Heap → Option β)
  (hL : ∀ m a o i H, L (m + 1) a o i H = pLen a fun t10 => pBin .lss i t10 fun t11 => pCond t11 (pIadr w a i fun t18 => pLoad true w t18 H fun t19 => (PR n β).call te (.fn g [] []) [t19] H fun t20 H => pIadr w o i fun t21 => pStore w t21 t20 H fun H => pBin .add i (.sc (.int .i64 1)) fun t13 => L m a o t13 H) (k o H))
  (l : List α) (hto : ∀ x ∈ l, tree E0 n te g [.agg (enc x)] = some (.agg (enc x))) (hlen : l.length ≤ 1048576) : ∀ (r pre : List α) (m : Nat), l = pre ++ r → r.length < m →
   L m (.ro l.length (l.map enc).flatten) (.sl 0 0 l.length w) (.sc (.int .i64 pre.length)) (⟨(instL ti0 E0.tp 1 (List.replicate pre.length cty).flatten (pre.map enc).flatten).1 ++ (List.replicate r.length z).flatten, true, true⟩ :: (instL ti0 E0.tp 1 (List.replicate pre.length cty).flatten (pre.map enc).flatten).2)
    = k (.sl 0 0 l.length w) (⟨(instL ti0 E0.tp 1 (List.replicate l.length cty).flatten (l.map enc).flatten).1, true, true⟩ :: (instL ti0 E0.tp 1 (List.replicate l.length cty).flatten (l.map enc).flatten).2)
 | [], pre, m + 1, hl, hm => by
  rw [List.append_nil] at hl
  subst hl
  rw [hL, len_ro, lss_nat, cond_b]
  simp
 | x :: r, pre, m + 1, hl, hm => by
  have hlt : pre.length < l.length := by rw [hl]; simp
  rw [hL, len_ro, lss_nat, cond_b, if_pos (by simpa using hlt)]
  have hel := fun k => el_ro (β := β) hw h0 pre x r k
  rw [← hl] at hel
  rw [hel, ld_rp w _ _ _ _ (hw x)]
  rw [PR_call (vs := [.agg (enc x)]) hh (by rw [List.mapM_cons, (Vw_agg _ (hfl x)).now]; rfl) (hto x (by rw [hl]; simp))]
  rw [iadr_sl w _ _ _ _ _ hlt]
  obtain ⟨i, hi, rfl⟩ := hte
  have hr : (List.replicate pre.length i.cty).flatten.length = ((pre.map enc).flatten).length := by rw [rows_len hw]; simp [hc]
  have hJ := instL_append (ti := ti0) (tp := E0.tp) (List.replicate pre.length i.cty).flatten (pre.map enc).flatten i.cty (enc x) 1 hr
  generalize hP : instL ti0 E0.tp 1 (List.replicate pre.length i.cty).flatten (pre.map enc).flatten = P at hJ ⊢
  have hPl : P.1.length = pre.length * w := by rw [← hP, instL_len, rows_len hw]
  have hN : (⟨P.1 ++ (List.replicate (x :: r).length z).flatten, true, true⟩ :: P.2 : Heap).length = 1 + P.2.length := by simp [Nat.add_comm]
  rw [hN, instT_agg, hi, Option.getD_some]
  simp only
  generalize hQ : instL ti0 E0.tp (1 + P.2.length) i.cty (enc x) = Q at hJ ⊢
  have hQl : Q.1.length = w := by rw [← hQ, instL_len, hw]
  have hcl : cellsA (.agg Q.1) = some Q.1 := by
   show (if Q.1.all isLeaf then some Q.1 else none) = _
   rw [if_pos (by rw [← hQ]; exact instL_leaf _ _ _ (hfl x))]
  rw [List.cons_append, st_at w 0 (0 + pre.length * w) (.agg Q.1) ⟨P.1 ++ (List.replicate (x :: r).length z).flatten, true, true⟩ Q.1 _ _ rfl hcl hQl (by simp [hPl, hz, Nat.succ_mul]) rfl]
  rw [List.set_cons_zero, inc_nat _ _ (by omega)]
  have ih := to_loop enc k z hz hw hc h0 ⟨i, hi, rfl⟩ hfl hh L hL l hto hlen r (pre ++ [x]) m (by rw [hl]; simp) (by simpa using hm)
  have e1 : (List.replicate (pre ++ [x]).length i.cty).flatten = (List.replicate pre.length i.cty).flatten ++ i.cty := by
   rw [List.length_append, List.length_singleton, List.replicate_succ', List.flatten_append]; simp
  have e2 : ((pre ++ [x]).map enc).flatten = (pre.map enc).flatten ++ enc x := by simp
  rw [e1, e2, hJ] at ih
  have e3 : splice (P.1 ++ (List.replicate (x :: r).length z).flatten) (0 + pre.length * w) Q.1 = P.1 ++ Q.1 ++ (List.replicate r.length z).flatten := by
   rw [List.length_cons, List.replicate_succ, List.flatten_cons, Nat.zero_add, ← hPl, splice_mid _ _ _ _ (by rw [hz, hQl]), List.append_assoc]
  simp only [e3]
  rw [List.length_append, List.length_singleton] at ih
  exact ih
theorem to_slice {α : Type} {n te tyS f g w bytes : Nat} {cty : List Nat} (enc : α → List AV) (z : List AV) (hz : z.length = w) (hw : ∀ x, (enc x).length = w) (hc : cty.length = w) (h0 : 0 < w)
  (hty : ∃ i j, ti0 tyS = some i ∧ ti0 i.elem = some j ∧ j.size = w ∧ j.cty = cty) (hte : ∃ i, ti0 te = some i ∧ i.cty = cty) (hfl : ∀ x, (enc x).all isFl = true) (hh : plainF g = false) (L : (AV → Heap → Option AV) → Nat → AV → AV → AV → Heap → Option AV)
  (hL : ∀ k m a o i H, L k (m + 1) a o i H = pLen a fun t10 => pBin .lss i t10 fun t11 => pCond t11 (pIadr w a i fun t18 => pLoad true w t18 H fun t19 => (PR n AV).call te (.fn g [] []) [t19] H fun t20 H => pIadr w o i fun t21 => pStore w t21 t20 H fun H => pBin .add i (.sc (.int .i64 1)) fun t13 => L k m a o t13 H) (k o H))
  (hF : ∀ a H k, evalFn E0 (n + 1) AV f [a] H k = pLen a fun t6 => pMake w bytes z t6 t6 H fun t7 H => L k n a t7 (.sc (.int .i64 0)) H)
  (hby : bytes ≤ 134217728) (l : List α) (hto : ∀ x ∈ l, tree E0 n te g [.agg (enc x)] = some (.agg (enc x))) (hok : ∀ x ∈ l, okLW (okW ti0 E0.tp 7) cty (enc x)) (hlen : l.length ≤ 1048576) (hn : 1048576 < n) :
  tree E0 (n + 1) tyS f [.ro l.length (l.map enc).flatten] = some (.ro l.length (l.map enc).flatten) := by
 rw [tree_def, hF, len_ro]
 have hb : l.length * bytes ≤ 140737488355328 := Nat.le_trans (Nat.mul_le_mul hlen hby) (by decide)
 simp only [pMake, asI, Option.bind_some, if_true, Int.toNat_natCast, hb, Int.natCast_nonneg, pNewSl, List.length_nil, List.nil_append]
 have key := to_loop (n := n) (te := te) (g := g) (cty := cty) enc (fun x H => ownTree ti0 E0.tp tyS H x) z hz hw hc h0 hte hfl hh _ (hL _) l hto hlen l [] n (by simp) (by omega)
 simp only [List.length_nil, List.replicate_zero, List.flatten_nil, List.map_nil, instL, List.nil_append, Int.natCast_zero] at key
 refine key.trans ?_
 obtain ⟨i, j, h1, h2, h3, rfl⟩ := hty
 have hok' : okW ti0 E0.tp 8 tyS (.ro l.length (l.map enc).flatten) := ⟨i, j, h1, h2, by rw [rows_len hw, h3], okLW_rows l hok⟩
 have := own_ret [] tyS _ hok'
 simp only [instT, h1, h2, Option.bind_some, Option.getD_some, List.length_nil, List.nil_append, Nat.zero_add, h3] at this
 exact this
theorem flat_loop {α : Type} {n : Nat} (e : α → Value) (k : AV → Heap → Option β) (z : AV) (hlf : ∀ x, leafV (e x) = true) (L : Nat → AV → AV → AV → Heap → Option β)
  (hL : ∀ m a o i H, L (m + 1) a o i H = pLen a fun t10 => pBin .lss i t10 fun t11 => pCond t11 (pIadr 1 a i fun t18 => pLoad false 1 t18 H fun t19 => pIadr 1 o i fun t21 => pStore 1 t21 t19 H fun H => pBin .add i (.sc (.int .i64 1)) fun t13 => L m a o t13 H) (k o H))
  (l : List α) (hlen : l.length ≤ 1048576) : ∀ (r pre : List α) (m : Nat), l = pre ++ r → r.length < m →
   L m (.ro l.length (l.map fun x => .sc (e x))) (.sl 0 0 l.length 1) (.sc (.int .i64 pre.length)) [⟨(pre.map fun x => .sc (e x)) ++ List.replicate r.length z, true, true⟩]
    = k (.sl 0 0 l.length 1) [⟨l.map fun x => .sc (e x), true, true⟩]
 | [], pre, m + 1, hl, hm => by
  rw [List.append_nil] at hl
  subst hl
  rw [hL, len_ro, lss_nat, cond_b]
  simp
 | x :: r, pre, m + 1, hl, hm => by
  have hlt : pre.length < l.length := by rw [hl]; simp
  rw [hL, len_ro, lss_nat, cond_b, if_pos (by simpa using hlt)]
  rw [iadr_ro 1 _ _ pre.length _ hlt (by simpa using hlt)]
  have hd : (l.map fun x => AV.sc (e x)).drop (pre.length * 1) = .sc (e x) :: r.map fun x => .sc (e x) := by
   rw [Nat.mul_one, hl, List.map_append, List.drop_append_of_le_length (by simp)]
   rw [show pre.length = (pre.map fun x => AV.sc (e x)).length by simp, List.drop_length]
   rfl
  rw [hd, ld1_rp, iadr_sl 1 _ _ _ _ _ hlt]
  have hc : cellsA (.sc (e x)) = some [.sc (e x)] := by
   show cellsA (.sc (e x)) = _
   simp only [cellsA, isLeaf, hlf, if_true]
  rw [st_at 1 0 (0 + pre.length * 1) (.sc (e x)) ⟨(pre.map fun x => .sc (e x)) ++ List.replicate (x :: r).length z, true, true⟩ [.sc (e x)] _ _ rfl hc rfl (by simp) rfl]
  rw [List.set_cons_zero, inc_nat _ _ (by omega)]
  have ih := flat_loop (n := n) e k z hlf L hL l hlen r (pre ++ [x]) m (by rw [hl]; simp) (by simpa using hm)
  have e3 : splice ((pre.map fun x => AV.sc (e x)) ++ List.replicate (x :: r).length z) (0 + pre.length * 1) [.sc (e x)] = ((pre ++ [x]).map fun x => AV.sc (e x)) ++ List.replicate r.length z := by
   have := splice_mid (pre.map fun x => AV.sc (e x)) [z] (List.replicate r.length z) [.sc (e x)] rfl
   rw [List.length_map] at this
   rw [List.length_cons, List.replicate_succ, Nat.zero_add, Nat.mul_one]
   refine this.trans ?_
   simp
  simp only [e3]
  rw [List.length_append, List.length_singleton] at ih
  exact ih
theorem to_flat {α : Type} {n tyS f bytes : Nat} (e : α → Value) (z : AV) (hlf : ∀ x, leafV (e x) = true) (hty : ∃ i j, ti0 tyS = some i ∧ ti0 i.elem = some j ∧ j.size = 1 ∧ j.cty.length = 1) (L : (AV → Heap → Option AV) → Nat → AV → AV → AV → Heap → Option AV)
  (hL : ∀ k m a o i H, L k (m + 1) a o i H = pLen a fun t10 => pBin .lss i t10 fun t11 => pCond t11 (pIadr 1 a i fun t18 => pLoad false 1 t18 H fun t19 => pIadr 1 o i fun t21 => pStore 1 t21 t19 H fun H => pBin .add i (.sc (.int .i64 1)) fun t13 => L k m a o t13 H) (k o H))
  (hF : ∀ a H k, evalFn E0 (n + 1) AV f [a] H k = pLen a fun t6 => pMake 1 bytes [z] t6 t6 H fun t7 H => L k n a t7 (.sc (.int .i64 0)) H)
  (hby : bytes ≤ 134217728) (l : List α) (hlen : l.length ≤ 1048576) (hn : 1048576 < n) :
  tree E0 (n + 1) tyS f [.ro l.length (l.map fun x => .sc (e x))] = some (.ro l.length (l.map fun x => .sc (e x))) := by
 rw [tree_def, hF, len_ro]
 have hb : l.length * bytes ≤ 140737488355328 := Nat.le_trans (Nat.mul_le_mul hlen hby) (by decide)
 have hz : (List.replicate l.length [z]).flatten = List.replicate l.length z := by
  generalize l.length = m
  induction m with
  | zero => rfl
  | succ m ih => rw [List.replicate_succ, List.flatten_cons, ih, List.replicate_succ]; rfl
 simp only [pMake, asI, Option.bind_some, if_true, Int.toNat_natCast, hb, Int.natCast_nonneg, pNewSl, List.length_nil, List.nil_append, hz]
 have key := flat_loop (n := n) e (fun x H => ownTree ti0 E0.tp tyS H x) z hlf _ (hL _) l hlen l [] n (by simp) (by omega)
 simp only [List.length_nil, List.map_nil, List.nil_append, Int.natCast_zero] at key
 refine key.trans ?_
 obtain ⟨i, j, h1, h2, h3, h4⟩ := hty
 have em : (l.map fun x => AV.sc (e x)) = (l.map e).map AV.sc := by rw [List.map_map]; rfl
 have hl1 : (List.replicate l.length j.cty).flatten.length = (l.map e).length := by simp [h4]
 have e3 := ownL_sc (ti := ti0) (tp := E0.tp) (H := [⟨l.map fun x => AV.sc (e x), true, true⟩]) (d := 6) _ _ hl1
 have e2 : rdCells [⟨l.map fun x => AV.sc (e x), true, true⟩] 0 0 (l.length * 1) = some (l.map fun x => AV.sc (e x)) := by
  simp [rdCells, List.take_of_length_le]
 rw [ownTree, ownT_sl]
 simp only [h1, h2, h3, Option.bind_some, if_true, e2, isApp, List.getElem?_cons_zero]
 rw [em] at e3 ⊢
 rw [e3]
 rfl
theorem eq_loop {α : Type} {n tb g w : Nat} (enc : α → List AV) (k : AV → Heap → Option β) (hw : ∀ x, (enc x).length = w) (h0 : 0 < w) (hfl : ∀ x, (enc x).all isFl = true) (hh : plainF g = false) (L : Nat → AV → AV → AV → Heap → Option β)
  (hL : ∀ m a b i H, L (m + 1) a b i H = pLen a fun t13 => pBin .lss i t13 fun t14 => pCond t14 (pIadr w a i fun t19 => pLoad true w t19 H fun t20 => pIadr w b i fun t23 => pLoad true w t23 H fun t24 => (PR n β).call tb (.fn g [] []) [t20, t24] H fun t25 H => pUn .not t25 fun t26 => pCond t26 (k (.sc (.bool false)) H) (pBin .add i (.sc (.int .i64 1)) fun t16 => L m a b t16 H)) (k (.sc (.bool true)) H))
  (l : List α) (heq : ∀ x ∈ l, tree E0 n tb g [.agg (enc x), .agg (enc x)] = some (.sc (.bool true))) (hlen : l.length ≤ 1048576) (H : Heap) : ∀ (r pre : List α) (m : Nat), l = pre ++ r → r.length < m →
   L m (.ro l.length (l.map enc).flatten) (.ro l.length (l.map enc).flatten) (.sc (.int .i64 pre.length)) H = k (.sc (.bool true)) H
 | [], pre, m + 1, hl, hm => by
  rw [List.append_nil] at hl
  subst hl
  rw [hL, len_ro, lss_nat, cond_b]
  simp
 | x :: r, pre, m + 1, hl, hm => by
  have hlt : pre.length < l.length := by rw [hl]; simp
  rw [hL, len_ro, lss_nat, cond_b, if_pos (by simpa using hlt)]
  have hel := fun k => el_ro (β := β) hw h0 pre x r k
  rw [← hl] at hel
  rw [hel, ld_rp w _ _ _ _ (hw x), hel, ld_rp w _ _ _ _ (hw x)]
  rw [PR_call (vs := [.agg (enc x), .agg (enc x)]) hh (by simp only [List.mapM_cons, (Vw_agg _ (hfl x)).now]; rfl) (heq x (by rw [hl]; simp))]
  rw [instT_sc]
  simp only [pUn, Bool.not_true, List.append_nil]
  rw [cond_b, if_neg (by simp), inc_nat _ _ (by omega)]
  have ih := eq_loop enc k hw h0 hfl hh L hL l heq hlen H r (pre ++ [x]) m (by rw [hl]; simp) (by simpa using hm)
  rw [List.length_append, List.length_singleton] at ih
  exact ih
theorem neq_nat (a b : Nat) (k : AV → Option β) : pBin .neq (.sc (.int .i64 a)) (.sc (.int .i64 b)) k = k (.sc (.bool (decide (a ≠ b)))) := by
 show k (.sc (.bool ((a : Int) != (b : Int)))) = _
 congr 3
 by_cases h : a = b
 ·subst h; simp
 ·simp [bne, h]; omega
theorem eq_slice {α : Type} {n tb f g w : Nat} (enc : α → List AV) (hw : ∀ x, (enc x).length = w) (h0 : 0 < w) (hfl : ∀ x, (enc x).all isFl = true) (hh : plainF g = false) (L : (AV → Heap → Option AV) → Nat → AV → AV → AV → Heap → Option AV)
  (hL : ∀ k m a b i H, L k (m + 1) a b i H = pLen a fun t13 => pBin .lss i t13 fun t14 => pCond t14 (pIadr w a i fun t19 => pLoad true w t19 H fun t20 => pIadr w b i fun t23 => pLoad true w t23 H fun t24 => (PR n AV).call tb (.fn g [] []) [t20, t24] H fun t25 H => pUn .not t25 fun t26 => pCond t26 (k (.sc (.bool false)) H) (pBin .add i (.sc (.int .i64 1)) fun t16 => L k m a b t16 H)) (k (.sc (.bool true)) H))
  (hF : ∀ a b H k, evalFn E0 (n + 1) AV f [a, b] H k = pLen a fun t7 => pLen b fun t9 => pBin .neq t7 t9 fun t10 => pCond t10 (k (.sc (.bool false)) H) (L k n a b (.sc (.int .i64 0)) H))
  (l : List α) (heq : ∀ x ∈ l, tree E0 n tb g [.agg (enc x), .agg (enc x)] = some (.sc (.bool true))) (hlen : l.length ≤ 1048576) (hn : 1048576 < n) (tb' : Nat) :
  tree E0 (n + 1) tb' f [.ro l.length (l.map enc).flatten, .ro l.length (l.map enc).flatten] = some (.sc (.bool true)) := by
 rw [tree_def, hF, len_ro, len_ro, neq_nat, cond_b, if_neg (by simp)]
 have key := eq_loop (n := n) (tb := tb) (g := g) enc (fun x H => ownTree ti0 E0.tp tb' H x) hw h0 hfl hh (L fun x H => ownTree ti0 E0.tp tb' H x) (hL fun x H => ownTree ti0 E0.tp tb' H x) l heq hlen [] l [] n (by simp) (by omega)
 simp only [List.length_nil, Int.natCast_zero] at key
 rw [key]
 rfl
theorem eqf_loop {α : Type} {n : Nat} (e : α → Value) (k : AV → Heap → Option β) (hne : ∀ (x : α) (γ : Type) (k : AV → Option γ), pBin .neq (.sc (e x)) (.sc (e x)) k = k (.sc (.bool false))) (L : Nat → AV → AV → AV → Heap → Option β)
  (hL : ∀ m a b i H, L (m + 1) a b i H = pLen a fun t13 => pBin .lss i t13 fun t14 => pCond t14 (pIadr 1 a i fun t19 => pLoad false 1 t19 H fun t20 => pIadr 1 b i fun t23 => pLoad false 1 t23 H fun t24 => pBin .neq t20 t24 fun t25 => pCond t25 (k (.sc (.bool false)) H) (pBin .add i (.sc (.int .i64 1)) fun t16 => L m a b t16 H)) (k (.sc (.bool true)) H))
  (l : List α) (hlen : l.length ≤ 1048576) (H : Heap) : ∀ (r pre : List α) (m : Nat), l = pre ++ r → r.length < m →
   L m (.ro l.length (l.map fun x => .sc (e x))) (.ro l.length (l.map fun x => .sc (e x))) (.sc (.int .i64 pre.length)) H = k (.sc (.bool true)) H
 | [], pre, m + 1, hl, hm => by
  rw [List.append_nil] at hl
  subst hl
  rw [hL, len_ro, lss_nat, cond_b]
  simp
 | x :: r, pre, m + 1, hl, hm => by
  have hlt : pre.length < l.length := by rw [hl]; simp
  rw [hL, len_ro, lss_nat, cond_b, if_pos (by simpa using hlt)]
  have hd : (l.map fun x => AV.sc (e x)).drop (pre.length * 1) = .sc (e x) :: r.map fun x => .sc (e x) := by
   rw [Nat.mul_one, hl, List.map_append, List.drop_append_of_le_length (by simp)]
   rw [show pre.length = (pre.map fun x => AV.sc (e x)).length by simp, List.drop_length]
   rfl
  rw [iadr_ro 1 _ _ pre.length _ hlt (by simpa using hlt), hd, ld1_rp, iadr_ro 1 _ _ pre.length _ hlt (by simpa using hlt), hd, ld1_rp, hne, cond_b, if_neg (by simp), inc_nat _ _ (by omega)]
  have ih := eqf_loop (n := n) e k hne L hL l hlen H r (pre ++ [x]) m (by rw [hl]; simp) (by simpa using hm)
  rw [List.length_append, List.length_singleton] at ih
  exact ih
theorem eq_flat {α : Type} {n f : Nat} (e : α → Value) (hne : ∀ (x : α) (γ : Type) (k : AV → Option γ), pBin .neq (.sc (e x)) (.sc (e x)) k = k (.sc (.bool false))) (L : (AV → Heap → Option AV) → Nat → AV → AV → AV → Heap → Option AV)
  (hL : ∀ k m a b i H, L k (m + 1) a b i H = pLen a fun t13 => pBin .lss i t13 fun t14 => pCond t14 (pIadr 1 a i fun t19 => pLoad false 1 t19 H fun t20 => pIadr 1 b i fun t23 => pLoad false 1 t23 H fun t24 => pBin .neq t20 t24 fun t25 => pCond t25 (k (.sc (.bool false)) H) (pBin .add i (.sc (.int .i64 1)) fun t16 => L k m a b t16 H)) (k (.sc (.bool true)) H))
  (hF : ∀ a b H k, evalFn E0 (n + 1) AV f [a, b] H k = pLen a fun t7 => pLen b fun t9 => pBin .neq t7 t9 fun t10 => pCond t10 (k (.sc (.bool false)) H) (L k n a b (.sc (.int .i64 0)) H))
  (l : List α) (hlen : l.length ≤ 1048576) (hn : 1048576 < n) (tb' : Nat) :
  tree E0 (n + 1) tb' f [.ro l.length (l.map fun x => .sc (e x)), .ro l.length (l.map fun x => .sc (e x))] = some (.sc (.bool true)) := by
 rw [tree_def, hF, len_ro, len_ro, neq_nat, cond_b, if_neg (by simp)]
 have key := eqf_loop (n := n) e (fun x H => ownTree ti0 E0.tp tb' H x) hne (L fun x H => ownTree ti0 E0.tp tb' H x) (hL fun x H => ownTree ti0 E0.tp tb' H x) l hlen [] l [] n (by simp) (by omega)
 simp only [List.length_nil, Int.natCast_zero] at key
 rw [key]
 rfl
def szR (w : Nat) (left : Int) : Int := if left < w then -1 else left - w
def wtL {α : Type} (wt : α → Nat) : List α → Nat
 | [] => 0
 | x :: l => 1 + wt x + wtL wt l
def wtS {α : Type} (wt : α → Nat) : List α → Nat
 | [] => 0
 | x :: l => wt x + wtS wt l
theorem wtL_eq {α : Type} (wt : α → Nat) : ∀ l : List α, wtL wt l = l.length + wtS wt l
 | [] => rfl
 | x :: l => by rw [wtL, wtS, wtL_eq wt l, List.length_cons]; omega
theorem wtS_mem {α : Type} {wt : α → Nat} : ∀ {l : List α} {x : α}, x ∈ l → wt x ≤ wtS wt l
 | y :: l, x, h => by
  rw [wtS]
  rcases List.mem_cons.1 h with rfl | h
  ·omega
  ·have := wtS_mem (wt := wt) h
   omega
theorem sz_loop {α : Type} {n ty g w : Nat} (enc : α → List AV) (wt : α → Nat) (k : AV → Heap → Option β) (hw : ∀ x, (enc x).length = w) (h0 : 0 < w) (hfl : ∀ x, (enc x).all isFl = true) (hh : plainF g = false) (L : Nat → AV → AV → AV → Heap → Option β)
  (hL : ∀ m a l i H, L (m + 1) a l i H = pLen a fun t14 => pBin .lss i t14 fun t15 => pCond t15 (pIadr w a i fun t20 => pLoad true w t20 H fun t21 => (PR n β).call ty (.fn g [] []) [t21, l] H fun t23 H => pBin .lss t23 (.sc (.int .i64 0)) fun t25 => pCond t25 (k (.sc (.int .i64 (-1))) H) (pBin .add i (.sc (.int .i64 1)) fun t17 => L m a t23 t17 H)) (k l H))
  (l : List α) (hsz : ∀ x ∈ l, ∀ left : Int, 0 ≤ left → left ≤ 1048576 → tree E0 n ty g [.agg (enc x), .sc (.int .i64 left)] = some (.sc (.int .i64 (szR (wt x) left)))) (hlen : l.length ≤ 1048576) (H : Heap) : ∀ (r pre : List α) (m : Nat) (left : Int), 0 ≤ left → left ≤ 1048576 → l = pre ++ r → r.length < m →
   L m (.ro l.length (l.map enc).flatten) (.sc (.int .i64 left)) (.sc (.int .i64 pre.length)) H = k (.sc (.int .i64 (szR (wtS wt r) left))) H
 | [], pre, m + 1, left, hl0, hl1, hl, hm => by
  rw [List.append_nil] at hl
  subst hl
  rw [hL, len_ro, lss_nat, cond_b]
  have : szR (wtS wt []) left = left := by simp [szR, wtS]; omega
  rw [this]
  simp
 | x :: r, pre, m + 1, left, hl0, hl1, hl, hm => by
  have hlt : pre.length < l.length := by rw [hl]; simp
  rw [hL, len_ro, lss_nat, cond_b, if_pos (by simpa using hlt)]
  have hel := fun k => el_ro (β := β) hw h0 pre x r k
  rw [← hl] at hel
  rw [hel, ld_rp w _ _ _ _ (hw x)]
  rw [PR_call (vs := [.agg (enc x), .sc (.int .i64 left)]) hh (by simp only [List.mapM_cons, (Vw_agg _ (hfl x)).now]; rfl) (hsz x (by rw [hl]; simp) left hl0 hl1)]
  rw [instT_sc]
  simp only [List.append_nil]
  rw [lss64, cond_b]
  by_cases hs : left < wt x
  ·have e1 : szR (wt x) left = -1 := by simp [szR, hs]
   have e2 : szR (wtS wt (x :: r)) left = -1 := by
    rw [wtS, szR, if_pos]; omega
   rw [e1, e2]
   simp
  ·have e1 : szR (wt x) left = left - wt x := by simp [szR, hs]
   have e2 : szR (wtS wt (x :: r)) left = szR (wtS wt r) (left - wt x) := by
    unfold szR
    rw [wtS]
    by_cases h : left < ((wt x + wtS wt r : Nat) : Int)
    ·rw [if_pos h, if_pos (by omega)]
    ·rw [if_neg h, if_neg (by omega)]; omega
   rw [e1, e2, if_neg (by simp; omega), inc_nat _ _ (by omega)]
   have ih := sz_loop enc wt k hw h0 hfl hh L hL l hsz hlen H r (pre ++ [x]) m (left - wt x) (by omega) (by omega) (by rw [hl]; simp) (by simpa using hm)
   rw [List.length_append, List.length_singleton] at ih
   exact ih
theorem sz_slice {α : Type} {n ty f g w : Nat} (enc : α → List AV) (wt : α → Nat) (hw : ∀ x, (enc x).length = w) (h0 : 0 < w) (hfl : ∀ x, (enc x).all isFl = true) (hh : plainF g = false) (L : (AV → Heap → Option AV) → Nat → AV → AV → AV → Heap → Option AV)
  (hL : ∀ k m a l i H, L k (m + 1) a l i H = pLen a fun t14 => pBin .lss i t14 fun t15 => pCond t15 (pIadr w a i fun t20 => pLoad true w t20 H fun t21 => (PR n AV).call ty (.fn g [] []) [t21, l] H fun t23 H => pBin .lss t23 (.sc (.int .i64 0)) fun t25 => pCond t25 (k (.sc (.int .i64 (-1))) H) (pBin .add i (.sc (.int .i64 1)) fun t17 => L k m a t23 t17 H)) (k l H))
  (hF : ∀ a b H k, evalFn E0 (n + 1) AV f [a, b] H k = pLen a fun t8 => pBin .sub b t8 fun t9 => pBin .lss t9 (.sc (.int .i64 0)) fun t11 => pCond t11 (k (.sc (.int .i64 (-1))) H) (L k n a t9 (.sc (.int .i64 0)) H))
  (l : List α) (hsz : ∀ x ∈ l, ∀ left : Int, 0 ≤ left → left ≤ 1048576 → tree E0 n ty g [.agg (enc x), .sc (.int .i64 left)] = some (.sc (.int .i64 (szR (wt x) left)))) (hmax : l.length ≤ 9223372036854775807) (hn : 1048576 < n) (left : Int) (hl0 : 0 ≤ left) (hl1 : left ≤ 1048576) (ty' : Nat) :
  tree E0 (n + 1) ty' f [.ro l.length (l.map enc).flatten, .sc (.int .i64 left)] = some (.sc (.int .i64 (szR (wtL wt l) left))) := by
 rw [tree_def, hF, len_ro, sub64 _ _ _ (by omega) (by omega), lss64, cond_b]
 by_cases h : left - (l.length : Int) < 0
 ·have e : szR (wtL wt l) left = -1 := by rw [wtL_eq, szR, if_pos]; omega
  rw [if_pos (by simpa using h), e]
  rfl
 ·have e : szR (wtL wt l) left = szR (wtS wt l) (left - l.length) := by
   rw [wtL_eq]
   unfold szR
   by_cases h : left < ((l.length + wtS wt l : Nat) : Int)
   ·rw [if_pos h, if_pos (by omega)]
   ·rw [if_neg h, if_neg (by omega)]; omega
  rw [if_neg (by simpa using h), e]
  have key := sz_loop (n := n) (ty := ty) (g := g) enc wt (fun x H => ownTree ti0 E0.tp ty' H x) hw h0 hfl hh (L fun x H => ownTree ti0 E0.tp ty' H x) (hL fun x H => ownTree ti0 E0.tp ty' H x) l hsz (by omega) [] l [] n (left - l.length) (by omega) (by omega) (by simp) (by omega)
  simp only [List.length_nil, Int.natCast_zero] at key
  rw [key]
  rfl
theorem sz_len {n f : Nat} (hF : ∀ a b H k, evalFn E0 (n + 1) AV f [a, b] H k = pLen a fun t8 => pBin .sub b t8 fun t9 => pBin .lss t9 (.sc (.int .i64 0)) fun t11 => pCond t11 (k (.sc (.int .i64 (-1))) H) (k t9 H))
  (len : Nat) (cells : List AV) (hmax : len ≤ 9223372036854775807) (left : Int) (hl0 : 0 ≤ left) (hl1 : left ≤ 1048576) (ty' : Nat) :
  tree E0 (n + 1) ty' f [.ro len cells, .sc (.int .i64 left)] = some (.sc (.int .i64 (szR len left))) := by
 rw [tree_def, hF, len_ro, sub64 _ _ _ (by omega) (by omega), lss64, cond_b]
 by_cases h : left - (len : Int) < 0
 ·have e : szR len left = -1 := by rw [szR, if_pos]; omega
  rw [if_pos (by simpa using h), e]
  rfl
 ·have e : szR len left = left - len := by rw [szR, if_neg]; omega
  rw [if_neg (by simpa using h), e]
  rfl
end ops
end Go.Proofs.YtejjggnchdldoaaGreatDoor.Abs
set_option linter.unusedVariables false
set_option linter.unusedSimpArgs false
namespace Go.Proofs.YtejjggnchdldoaaGreatDoor.Abs
open Go
variable {β : Type} {n : Nat}
theorem box_fl (cs : List AV) (H : Heap) (k : AV → Heap → Option β) (h : cs.all isFl = true) : pBox (.agg cs) H k = k (.ptr H.length 0) (H ++ [⟨cs, true, true⟩]) := by
 rw [pBox, fl_cells h]
 rfl
theorem ldT {m id off : Nat} {H : Heap} {cs : List AV} (h : rdCells H id off m = some cs) (k : AV → Option β) : pLoad true m (.ptr id off) H k = k (.agg cs) := by
 simp only [pLoad, h, Option.bind_some, if_true]
theorem ldF {id off : Nat} {H : Heap} {c : AV} (h : rdCells H id off 1 = some [c]) (k : AV → Option β) : pLoad false 1 (.ptr id off) H k = k c := by
 simp only [pLoad, h, Option.bind_some, Bool.false_eq_true, if_false, one]
noncomputable def FrB (b0 b1 : Blk) (ts : List Nat) (cs z : List AV) : Heap := b0 :: b1 :: ⟨(instL ti0 E0.tp 3 ts cs).1 ++ z, true, true⟩ :: (instL ti0 E0.tp 3 ts cs).2
theorem fr_put {b0 b1 : Blk} {ts : List Nat} {cs z0 z : List AV} {w o : Nat} {y : AV} {ys : List AV} {B : List Blk} {ts' : List Nat} {cs' : List AV} (hl : ts.length = cs.length) (ho : o = cs.length) (hw : z0.length = w) (hc : cellsA y = some ys) (hy : ys.length = w)
  (hB : instL ti0 E0.tp (3 + (instL ti0 E0.tp 3 ts cs).2.length) ts' cs' = (ys, B)) (K : Heap → Option β) :
  pStore w (.ptr 2 o) y (FrB b0 b1 ts cs (z0 ++ z) ++ B) K = K (FrB b0 b1 (ts ++ ts') (cs ++ cs') z) := by
 have hP : (instL ti0 E0.tp 3 ts cs).1.length = cs.length := instL_len _ _ _
 rw [st_at w 2 o y ⟨(instL ti0 E0.tp 3 ts cs).1 ++ (z0 ++ z), true, true⟩ ys _ _ rfl hc hy (by simp [hP, ho, hw]) rfl]
 congr 1
 have hs : splice ((instL ti0 E0.tp 3 ts cs).1 ++ (z0 ++ z)) o ys = (instL ti0 E0.tp 3 ts cs).1 ++ (ys ++ z) := by
  rw [ho, ← hP]
  exact splice_mid _ _ _ _ (by rw [hw, hy])
 simp only [FrB, List.cons_append, List.set_cons_succ, List.set_cons_zero, hs, instL_append ts cs ts' cs' 3 hl, hB, List.append_assoc]
theorem to_sc {b0 b1 : Blk} {ts : List Nat} {cs z z' : List AV} {o : Nat} {t : Nat} {v : Value} {c : AV} {K : Heap → Option β} {r : Option β} (hr : rdCells (FrB b0 b1 ts cs z) 0 o 1 = some [.sc v]) (hv : leafV v = true) (hl : ts.length = cs.length) (ho : o = cs.length) (hz : z = c :: z')
  (h : K (FrB b0 b1 (ts ++ [t]) (cs ++ [.sc v]) z') = r) :
  (pFadr o (.ptr 0 0) fun t4 => pLoad false 1 t4 (FrB b0 b1 ts cs z) fun t5 => pFadr o (.ptr 2 0) fun t6 => pStore 1 t6 t5 (FrB b0 b1 ts cs z) fun H => K H) = r := by
 subst hz
 simp only [pFadr, Nat.zero_add]
 rw [ldF hr]
 have := fr_put (β := β) (b0 := b0) (b1 := b1) (ts := ts) (cs := cs) (z0 := [c]) (z := z') (w := 1) (o := o) (y := .sc v) (ys := [.sc v]) (B := []) (ts' := [t]) (cs' := [.sc v]) hl ho rfl (by simp only [cellsA, isLeaf, hv, if_true]) rfl (by simp [instL, instT]) K
 rw [List.append_nil] at this
 exact this.trans h
theorem to_ro {b0 b1 : Blk} {ts : List Nat} {cs z z' : List AV} {o t g len : Nat} {c : AV} {cells : List AV} {K : Heap → Option β} {r : Option β} (hr : rdCells (FrB b0 b1 ts cs z) 0 o 1 = some [.ro len cells]) (hh : plainF g = false) (ht : tree E0 n t g [.ro len cells] = some (.ro len cells)) (hl : ts.length = cs.length) (ho : o = cs.length) (hz : z = c :: z')
  (h : K (FrB b0 b1 (ts ++ [t]) (cs ++ [.ro len cells]) z') = r) :
  (pFadr o (.ptr 0 0) fun t4 => pLoad false 1 t4 (FrB b0 b1 ts cs z) fun t5 => (PR n β).call t (.fn g [] []) [t5] (FrB b0 b1 ts cs z) fun t9 H => pFadr o (.ptr 2 0) fun t6 => pStore 1 t6 t9 H fun H => K H) = r := by
 subst hz
 simp only [pFadr, Nat.zero_add]
 rw [ldF hr, PR_call (vs := [.ro len cells]) hh (by simp only [List.mapM_cons, viewV_ro]; rfl) ht]
 have hH : (FrB b0 b1 ts cs (c :: z')).length = 3 + (instL ti0 E0.tp 3 ts cs).2.length := by simp [FrB]; omega
 rw [hH]
 have hi : ∀ N, ∃ s : AV, isLeaf s = true ∧ (instT ti0 E0.tp N t (.ro len cells)).1 = s ∧ cellsA s = some [s] := fun N => by
  refine ⟨_, ?_, rfl, ?_⟩ <;> simp [instT, isLeaf, cellsA]
 obtain ⟨s, _, hs, hc⟩ := hi (3 + (instL ti0 E0.tp 3 ts cs).2.length)
 have := fr_put (β := β) (b0 := b0) (b1 := b1) (ts := ts) (cs := cs) (z0 := [c]) (z := z') (w := 1) (o := o) (y := s) (ys := [s]) (ts' := [t]) (cs' := [.ro len cells]) (B := (instT ti0 E0.tp (3 + (instL ti0 E0.tp 3 ts cs).2.length) t (.ro len cells)).2) hl ho rfl hc rfl (by simp only [instL, List.headD_cons, List.append_nil, hs]) K
 rw [hs]
 exact this.trans h
theorem to_agg {b0 b1 : Blk} {ts cty : List Nat} {cs z z0 z' : List AV} {o t g w : Nat} {cells : List AV} {K : Heap → Option β} {r : Option β} (hr : rdCells (FrB b0 b1 ts cs z) 0 o w = some cells) (hh : plainF g = false) (hfl : cells.all isFl = true) (ht : tree E0 n t g [.agg cells] = some (.agg cells)) (hty : ∃ i, ti0 t = some i ∧ i.cty = cty) (hw : cells.length = w) (hl : ts.length = cs.length) (ho : o = cs.length) (hz : z = z0 ++ z') (hz0 : z0.length = w)
  (h : K (FrB b0 b1 (ts ++ cty) (cs ++ cells) z') = r) :
  (pFadr o (.ptr 0 0) fun t4 => pLoad true w t4 (FrB b0 b1 ts cs z) fun t5 => (PR n β).call t (.fn g [] []) [t5] (FrB b0 b1 ts cs z) fun t9 H => pFadr o (.ptr 2 0) fun t6 => pStore w t6 t9 H fun H => K H) = r := by
 subst hz
 obtain ⟨i, hi, rfl⟩ := hty
 simp only [pFadr, Nat.zero_add]
 rw [ldT hr, PR_call (vs := [.agg cells]) hh (by rw [List.mapM_cons, (Vw_agg _ hfl).now]; rfl) ht]
 have hH : (FrB b0 b1 ts cs (z0 ++ z')).length = 3 + (instL ti0 E0.tp 3 ts cs).2.length := by simp [FrB]; omega
 rw [hH, instT_agg, hi, Option.getD_some]
 have hleaf := instL_leaf (ti := ti0) (tp := E0.tp) cells (3 + (instL ti0 E0.tp 3 ts cs).2.length) i.cty hfl
 have hlen := instL_len (ti := ti0) (tp := E0.tp) (3 + (instL ti0 E0.tp 3 ts cs).2.length) i.cty cells
 have := fr_put (β := β) (b0 := b0) (b1 := b1) (ts := ts) (cs := cs) (z0 := z0) (z := z') (w := w) (o := o) (y := .agg (instL ti0 E0.tp (3 + (instL ti0 E0.tp 3 ts cs).2.length) i.cty cells).1) (ys := (instL ti0 E0.tp (3 + (instL ti0 E0.tp 3 ts cs).2.length) i.cty cells).1) (ts' := i.cty) (cs' := cells) (B := (instL ti0 E0.tp (3 + (instL ti0 E0.tp 3 ts cs).2.length) i.cty cells).2) hl ho hz0 (by
  show (if _ then _ else none) = _
  rw [if_pos hleaf]) (by rw [hlen, hw]) rfl K
 exact this.trans h
theorem to_end {b0 : Blk} {z1 cells : List AV} {cty : List Nat} {w ty : Nat} (hw : cells.length = w) (hz : z1.length = w) (hfl : cells.all isFl = true) (hty : ∃ i, ti0 ty = some i ∧ i.cty = cty) (hok : okLW (okW ti0 E0.tp 7) cty cells) :
  (pLoad true w (.ptr 2 0) (FrB b0 ⟨z1, true, true⟩ cty cells []) fun t14 => pStore w (.ptr 1 0) t14 (FrB b0 ⟨z1, true, true⟩ cty cells []) fun H => pLoad true w (.ptr 1 0) H fun r0 => ownTree ti0 E0.tp ty H r0) = some (.agg cells) := by
 obtain ⟨i, hi, rfl⟩ := hty
 have hlen := instL_len (ti := ti0) (tp := E0.tp) 3 i.cty cells
 have hleaf := instL_leaf (ti := ti0) (tp := E0.tp) cells 3 i.cty hfl
 have h1 : rdCells (FrB b0 ⟨z1, true, true⟩ i.cty cells []) 2 0 w = some (instL ti0 E0.tp 3 i.cty cells).1 := by
  simp [rdCells, FrB, hlen, hw, List.take_of_length_le]
 rw [ldT h1]
 have hc : cellsA (.agg (instL ti0 E0.tp 3 i.cty cells).1) = some (instL ti0 E0.tp 3 i.cty cells).1 := by
  show (if _ then _ else none) = _
  rw [if_pos hleaf]
 rw [st_at w 1 0 _ ⟨z1, true, true⟩ _ _ _ rfl hc (by rw [hlen, hw]) (by simp [hz]) rfl]
 have hs : splice z1 0 (instL ti0 E0.tp 3 i.cty cells).1 = (instL ti0 E0.tp 3 i.cty cells).1 := by
  unfold splice
  rw [List.take_zero, List.nil_append, List.drop_of_length_le (by rw [hlen, hw, hz]; omega), List.append_nil]
 simp only [hs]
 have h2 : rdCells ((FrB b0 ⟨z1, true, true⟩ i.cty cells []).set 1 ⟨(instL ti0 E0.tp 3 i.cty cells).1, true, true⟩) 1 0 w = some (instL ti0 E0.tp 3 i.cty cells).1 := by
  simp [rdCells, FrB, hlen, hw, List.take_of_length_le]
 rw [ldT h2]
 have hok' : okW ti0 E0.tp 8 ty (.agg cells) := ⟨i, hi, hok⟩
 have := own_ret [b0, ⟨(instL ti0 E0.tp 3 i.cty cells).1, true, true⟩, ⟨(instL ti0 E0.tp 3 i.cty cells).1 ++ [], true, true⟩] ty _ hok'
 rw [instT_agg, hi] at this
 exact this
noncomputable def StB (T : List Nat) (C Z : List AV) (o : Nat) : Heap := FrB ⟨C, true, true⟩ ⟨Z, true, true⟩ (T.take o) (C.take o) (Z.drop o)
theorem StB_rd {T : List Nat} {C Z : List AV} {o p w : Nat} {cs : List AV} (h : (C.drop p).take w = cs) (hl : cs.length = w) (hw : 0 < w) : rdCells (StB T C Z o) 0 p w = some cs := by
 have hle : p + w ≤ C.length := by
  have := congrArg List.length h
  rw [hl, List.length_take, List.length_drop] at this
  omega
 show (match (some ⟨C, true, true⟩ : Option Blk) with | some b => if b.live then (if p + w ≤ b.cells.length then some ((b.cells.drop p).take w) else none) else none | none => none) = _
 simp only [if_true, hle, h]
theorem one_of {C : List AV} {o : Nat} {c : AV} (h : C[o]? = some c) : (C.drop o).take 1 = [c] := by
 obtain ⟨hlt, e⟩ := List.getElem?_eq_some_iff.1 h
 rw [List.drop_eq_getElem_cons hlt, e]
 rfl
theorem take_w {α : Type} {T : List α} {o w o' : Nat} {c : List α} (h : (T.drop o).take w = c) (ho : o' = o + w) : T.take o' = T.take o ++ c := by
 rw [ho, List.take_add, h]
theorem st_sc {T : List Nat} {C Z : List AV} {o o' : Nat} {v : Value} {K : Heap → Option β} {r : Option β} (hT : T.length = C.length) (hZ : Z.length = C.length) (hC : C[o]? = some (.sc v)) (hv : leafV v = true) (ho : o' = o + 1) (h : K (StB T C Z o') = r) :
  (pFadr o (.ptr 0 0) fun t4 => pLoad false 1 t4 (StB T C Z o) fun t5 => pFadr o (.ptr 2 0) fun t6 => pStore 1 t6 t5 (StB T C Z o) fun H => K H) = r := by
 obtain ⟨hlt, _⟩ := List.getElem?_eq_some_iff.1 hC
 have hz : Z.drop o = Z[o]'(by omega) :: Z.drop o' := by rw [ho]; exact List.drop_eq_getElem_cons _
 refine to_sc (t := T[o]'(by omega)) (z' := Z.drop o') (StB_rd (one_of hC) rfl (by decide)) hv (by simp [hT]) (by simp; omega) hz ?_
 have e1 : T.take o' = T.take o ++ [T[o]'(by omega)] := take_w (w := 1) (by rw [List.drop_eq_getElem_cons (by omega)]; rfl) ho
 have e2 : C.take o' = C.take o ++ [.sc v] := take_w (one_of hC) ho
 rw [← e1, ← e2]
 exact h
theorem st_ro {T : List Nat} {C Z : List AV} {o o' t g len : Nat} {cells : List AV} {K : Heap → Option β} {r : Option β} (hT : T.length = C.length) (hZ : Z.length = C.length) (hC : C[o]? = some (.ro len cells)) (hTt : T[o]? = some t) (hh : plainF g = false) (ht : tree E0 n t g [.ro len cells] = some (.ro len cells)) (ho : o' = o + 1) (h : K (StB T C Z o') = r) :
  (pFadr o (.ptr 0 0) fun t4 => pLoad false 1 t4 (StB T C Z o) fun t5 => (PR n β).call t (.fn g [] []) [t5] (StB T C Z o) fun t9 H => pFadr o (.ptr 2 0) fun t6 => pStore 1 t6 t9 H fun H => K H) = r := by
 obtain ⟨hlt, _⟩ := List.getElem?_eq_some_iff.1 hC
 obtain ⟨hlt2, hTe⟩ := List.getElem?_eq_some_iff.1 hTt
 have hz : Z.drop o = Z[o]'(by omega) :: Z.drop o' := by rw [ho]; exact List.drop_eq_getElem_cons _
 refine to_ro (z' := Z.drop o') (StB_rd (one_of hC) rfl (by decide)) hh ht (by simp [hT]) (by simp; omega) hz ?_
 have e1 : T.take o' = T.take o ++ [t] := take_w (w := 1) (by rw [List.drop_eq_getElem_cons hlt2, hTe]; rfl) ho
 have e2 : C.take o' = C.take o ++ [.ro len cells] := take_w (one_of hC) ho
 rw [← e1, ← e2]
 exact h
theorem st_agg {T cty : List Nat} {C Z : List AV} {o o' t g w : Nat} {cells : List AV} {K : Heap → Option β} {r : Option β} (hT : T.length = C.length) (hZ : Z.length = C.length) (hC : (C.drop o).take w = cells) (hTt : (T.drop o).take w = cty) (hh : plainF g = false) (hfl : cells.all isFl = true) (ht : tree E0 n t g [.agg cells] = some (.agg cells)) (hty : ∃ i, ti0 t = some i ∧ i.cty = cty) (hw : cells.length = w) (hw0 : 0 < w) (ho : o' = o + w) (h : K (StB T C Z o') = r) :
  (pFadr o (.ptr 0 0) fun t4 => pLoad true w t4 (StB T C Z o) fun t5 => (PR n β).call t (.fn g [] []) [t5] (StB T C Z o) fun t9 H => pFadr o (.ptr 2 0) fun t6 => pStore w t6 t9 H fun H => K H) = r := by
 have hle : o + w ≤ C.length := by
  have := congrArg List.length hC
  rw [hw, List.length_take, List.length_drop] at this
  omega
 have hz : Z.drop o = (Z.drop o).take w ++ Z.drop o' := by
  rw [ho]
  conv => lhs; rw [← List.take_append_drop w (Z.drop o)]
  rw [List.drop_drop]
 refine to_agg (z0 := (Z.drop o).take w) (z' := Z.drop o') (StB_rd hC hw hw0) hh hfl ht hty hw (by simp [hT]) (by simp; omega) hz (by simp; omega) ?_
 have e1 : T.take o' = T.take o ++ cty := take_w hTt ho
 have e2 : C.take o' = C.take o ++ cells := take_w hC ho
 rw [← e1, ← e2]
 exact h
theorem st_end {T : List Nat} {C Z : List AV} {w ty : Nat} (hT : T.length = C.length) (hZ : Z.length = C.length) (hw : C.length = w) (hfl : C.all isFl = true) (hty : ∃ i, ti0 ty = some i ∧ i.cty = T) (hok : okLW (okW ti0 E0.tp 7) T C) :
  (pLoad true w (.ptr 2 0) (StB T C Z w) fun t14 => pStore w (.ptr 1 0) t14 (StB T C Z w) fun H => pLoad true w (.ptr 1 0) H fun r0 => ownTree ti0 E0.tp ty H r0) = some (.agg C) := by
 have e : StB T C Z w = FrB ⟨C, true, true⟩ ⟨Z, true, true⟩ T C [] := by
  unfold StB
  rw [List.take_of_length_le (by omega), List.take_of_length_le (by omega), List.drop_of_length_le (by omega)]
 rw [e]
 exact to_end hw (by omega) hfl hty hok
theorem eq_sc {o : Nat} {H : Heap} {v : Value} {A K r : Option β} (h0 : rdCells H 0 o 1 = some [.sc v]) (h1 : rdCells H 1 o 1 = some [.sc v]) (hv : ∀ k : AV → Option β, pBin .neq (.sc v) (.sc v) k = k (.sc (.bool false))) (h : K = r) :
  (pFadr o (.ptr 0 0) fun t5 => pLoad false 1 t5 H fun t6 => pFadr o (.ptr 1 0) fun t7 => pLoad false 1 t7 H fun t8 => pBin .neq t6 t8 fun t9 => pCond t9 A K) = r := by
 simp only [pFadr, Nat.zero_add]
 rw [ldF h0, ldF h1, hv, cond_b]
 exact h
theorem eq_b {o : Nat} {H : Heap} {b : Bool} {A K r : Option β} (h0 : rdCells H 0 o 1 = some [.sc (.bool b)]) (h1 : rdCells H 1 o 1 = some [.sc (.bool b)]) (h : K = r) :
  (pFadr o (.ptr 0 0) fun t5 => pLoad false 1 t5 H fun t6 => pFadr o (.ptr 1 0) fun t7 => pLoad false 1 t7 H fun t8 => pBinB .neq t6 t8 fun t9 => pCond t9 A K) = r := by
 simp only [pFadr, Nat.zero_add]
 rw [ldF h0, ldF h1]
 simp only [pBinB, asB, Option.bind_some, binB, beq_self_eq_true, Bool.not_true]
 exact h
theorem eq_ro {o tb g : Nat} {H : Heap} {len : Nat} {cells : List AV} {A : Heap → Option β} {K : Heap → Option β} {r : Option β} (h0 : rdCells H 0 o 1 = some [.ro len cells]) (h1 : rdCells H 1 o 1 = some [.ro len cells]) (hh : plainF g = false) (ht : tree E0 n tb g [.ro len cells, .ro len cells] = some (.sc (.bool true))) (h : K H = r) :
  (pFadr o (.ptr 0 0) fun t5 => pLoad false 1 t5 H fun t6 => pFadr o (.ptr 1 0) fun t7 => pLoad false 1 t7 H fun t8 => (PR n β).call tb (.fn g [] []) [t6, t8] H fun t H => pUn .not t fun t9 => pCond t9 (A H) (K H)) = r := by
 simp only [pFadr, Nat.zero_add]
 rw [ldF h0, ldF h1, PR_call (vs := [.ro len cells, .ro len cells]) hh (by simp only [List.mapM_cons, viewV_ro]; rfl) ht, instT_sc, List.append_nil]
 exact h
theorem eq_agg {o tb g w : Nat} {H : Heap} {cells : List AV} {A : Heap → Option β} {K : Heap → Option β} {r : Option β} (h0 : rdCells H 0 o w = some cells) (h1 : rdCells H 1 o w = some cells) (hh : plainF g = false) (hfl : cells.all isFl = true) (ht : tree E0 n tb g [.agg cells, .agg cells] = some (.sc (.bool true))) (h : K H = r) :
  (pFadr o (.ptr 0 0) fun t5 => pLoad true w t5 H fun t6 => pFadr o (.ptr 1 0) fun t7 => pLoad true w t7 H fun t8 => (PR n β).call tb (.fn g [] []) [t6, t8] H fun t H => pUn .not t fun t9 => pCond t9 (A H) (K H)) = r := by
 simp only [pFadr, Nat.zero_add]
 rw [ldT h0, ldT h1, PR_call (vs := [.agg cells, .agg cells]) hh (by simp only [List.mapM_cons, (Vw_agg _ hfl).now]; rfl) ht, instT_sc, List.append_nil]
 exact h
theorem ne_int (z : Int) (k : AV → Option β) : pBin .neq (.sc (.int .i64 z)) (.sc (.int .i64 z)) k = k (.sc (.bool false)) := by
 show k (.sc (.bool (z != z))) = _
 rw [bne_self_eq_false]
theorem ne_str (s : ByteArray) (k : AV → Option β) : pBin .neq (.sc (.string s)) (.sc (.string s)) k = k (.sc (.bool false)) := by
 show k (.sc (.bool (!(s.toList == s.toList)))) = _
 rw [beq_self_eq_true, Bool.not_true]
theorem ne_u8 (z : Int) (k : AV → Option β) : pBin .neq (.sc (.int .u8 z)) (.sc (.int .u8 z)) k = k (.sc (.bool false)) := by
 show k (.sc (.bool (z != z))) = _
 rw [bne_self_eq_false]
def szA (W : Nat) (left : Int) : Option AV := some (.sc (.int .i64 (szR W left)))
theorem szR_cut {s W : Nat} {left : Int} (h : left < s) : szR (s + W) left = -1 := by rw [szR, if_pos]; omega
theorem szR_go {s W : Nat} {left : Int} (h : ¬ left < s) : szR (s + W) left = szR W (left - s) := by
 unfold szR
 by_cases h2 : left < ((s + W : Nat) : Int)
 ·rw [if_pos h2, if_pos (by omega)]
 ·rw [if_neg h2, if_neg (by omega)]; omega
theorem sz_str {o : Nat} {H : Heap} {s : ByteArray} {W : Nat} {left : Int} {A : Option AV} {K : AV → Option AV} (hr : rdCells H 0 o 1 = some [.sc (.string s)]) (h0 : 0 ≤ left) (h1 : left ≤ 1048576) (hs : s.size ≤ 9223372036854775807) (hA : A = some (.sc (.int .i64 (-1)))) (hK : 0 ≤ left - s.size → left - s.size ≤ 1048576 → K (.sc (.int .i64 (left - s.size))) = szA W (left - s.size)) :
  (pFadr o (.ptr 0 0) fun t6 => pLoad false 1 t6 H fun t7 => pLenS t7 fun t8 => pBin .sub (.sc (.int .i64 left)) t8 fun t9 => pBin .lss t9 (.sc (.int .i64 0)) fun t11 => pCond t11 A (K t9)) = szA (s.size + W) left := by
 simp only [pFadr, Nat.zero_add]
 rw [ldF hr]
 simp only [pLenS, asS, Option.bind_some]
 rw [sub64 _ _ _ (by omega) (by omega), lss64, cond_b]
 by_cases h : left < s.size
 ·rw [if_pos (by simpa using (show left - (s.size : Int) < 0 by omega)), hA, szA, szR_cut h]
 ·rw [if_neg (by simpa using (show ¬ left - (s.size : Int) < 0 by omega)), hK (by omega) (by omega), szA, szA, szR_go h]
theorem sz_ro {o ty g : Nat} {H : Heap} {len : Nat} {cells : List AV} {w W : Nat} {left : Int} {A : Heap → Option AV} {K : AV → Heap → Option AV} (hr : rdCells H 0 o 1 = some [.ro len cells]) (h0 : 0 ≤ left) (h1 : left ≤ 1048576) (hh : plainF g = false) (ht : tree E0 n ty g [.ro len cells, .sc (.int .i64 left)] = some (.sc (.int .i64 (szR w left)))) (hA : A H = some (.sc (.int .i64 (-1)))) (hK : 0 ≤ left - w → left - w ≤ 1048576 → K (.sc (.int .i64 (left - w))) H = szA W (left - w)) :
  (pFadr o (.ptr 0 0) fun t6 => pLoad false 1 t6 H fun t7 => (PR n AV).call ty (.fn g [] []) [t7, .sc (.int .i64 left)] H fun t15 H => pBin .lss t15 (.sc (.int .i64 0)) fun t11 => pCond t11 (A H) (K t15 H)) = szA (w + W) left := by
 simp only [pFadr, Nat.zero_add]
 rw [ldF hr, PR_call (vs := [.ro len cells, .sc (.int .i64 left)]) hh (by simp only [List.mapM_cons, viewV_ro, viewV_sc]; rfl) ht, instT_sc, List.append_nil]
 simp only
 rw [lss64, cond_b]
 by_cases h : left < w
 ·have e : szR w left = -1 := by rw [szR, if_pos h]
  rw [e, if_pos (by decide), hA, szA, szR_cut h]
 ·have e : szR w left = left - w := by rw [szR, if_neg h]
  rw [e, if_neg (by simpa using (show ¬ left - (w : Int) < 0 by omega)), hK (by omega) (by omega), szA, szA, szR_go h]
theorem sz_agg {o ty g wd : Nat} {H : Heap} {cells : List AV} {w W : Nat} {left : Int} {A : Heap → Option AV} {K : AV → Heap → Option AV} (hr : rdCells H 0 o wd = some cells) (h0 : 0 ≤ left) (h1 : left ≤ 1048576) (hh : plainF g = false) (hfl : cells.all isFl = true) (ht : tree E0 n ty g [.agg cells, .sc (.int .i64 left)] = some (.sc (.int .i64 (szR w left)))) (hA : A H = some (.sc (.int .i64 (-1)))) (hK : 0 ≤ left - w → left - w ≤ 1048576 → K (.sc (.int .i64 (left - w))) H = szA W (left - w)) :
  (pFadr o (.ptr 0 0) fun t6 => pLoad true wd t6 H fun t7 => (PR n AV).call ty (.fn g [] []) [t7, .sc (.int .i64 left)] H fun t15 H => pBin .lss t15 (.sc (.int .i64 0)) fun t11 => pCond t11 (A H) (K t15 H)) = szA (w + W) left := by
 simp only [pFadr, Nat.zero_add]
 rw [ldT hr, PR_call (vs := [.agg cells, .sc (.int .i64 left)]) hh (by simp only [List.mapM_cons, (Vw_agg _ hfl).now, viewV_sc]; rfl) ht, instT_sc, List.append_nil]
 simp only
 rw [lss64, cond_b]
 by_cases h : left < w
 ·have e : szR w left = -1 := by rw [szR, if_pos h]
  rw [e, if_pos (by decide), hA, szA, szR_cut h]
 ·have e : szR w left = left - w := by rw [szR, if_neg h]
  rw [e, if_neg (by simpa using (show ¬ left - (w : Int) < 0 by omega)), hK (by omega) (by omega), szA, szA, szR_go h]
theorem sz_end {left : Int} (h0 : 0 ≤ left) : some (AV.sc (.int .i64 left)) = szA 0 left := by
 rw [szA, szR, if_neg (by omega)]
 simp
abbrev bytesC (s : ByteArray) : AV := .ro s.size (bytesAV s)
abbrev intsC (l : List Int) : AV := .ro l.length (l.map fun z => .sc (.int .i64 z))
abbrev strsC (l : List ByteArray) : AV := .ro l.length (l.map fun s => .sc (.string s))
abbrev rowsC {α : Type} (enc : α → List AV) (l : List α) : AV := .ro l.length (l.map enc).flatten
def okI (z : Int) : Prop := -9223372036854775808 ≤ z ∧ z ≤ 9223372036854775807
def okS (s : ByteArray) : Prop := s.size ≤ 9223372036854775807
theorem okLW_flat {f : Nat → AV → Prop} {α : Type} (e : α → Value) (hf : ∀ t v, f t (.sc v)) : ∀ (ts : List Nat) (l : List α), ts.length = l.length → okLW f ts (l.map fun x => .sc (e x))
 | [], [], _ => trivial
 | t :: ts, x :: l, h => ⟨hf _ _, okLW_flat e hf ts l (by simpa using h)⟩
 | [], _ :: _, h => by simp at h
 | _ :: _, [], h => by simp at h
theorem okW_flat {α : Type} {ty d : Nat} (e : α → Value) (hty : ∃ i j, ti0 ty = some i ∧ ti0 i.elem = some j ∧ j.size = 1 ∧ j.cty.length = 1) (l : List α) : okW ti0 E0.tp (d + 2) ty (.ro l.length (l.map fun x => .sc (e x))) := by
 obtain ⟨i, j, h1, h2, h3, h4⟩ := hty
 exact ⟨i, j, h1, h2, by simp [h3], okLW_flat e (fun _ _ => trivial) _ l (by simp [h4])⟩
theorem okW_bytes {d ty : Nat} (hty : ∃ i j, ti0 ty = some i ∧ ti0 i.elem = some j ∧ j.size = 1 ∧ j.cty.length = 1) (s : ByteArray) : okW ti0 E0.tp (d + 2) ty (bytesC s) := by
 have := okW_flat (d := d) (fun b : UInt8 => .int .u8 b.toNat) hty s.data.toList
 have e : s.data.toList.length = s.size := by simp
 rw [e] at this
 exact this
theorem okW_rows {α : Type} {ty d w : Nat} {cty : List Nat} {enc : α → List AV} (hw : ∀ x, (enc x).length = w) (hty : ∃ i j, ti0 ty = some i ∧ ti0 i.elem = some j ∧ j.size = w ∧ j.cty = cty) (he : ∀ x, okLW (okW ti0 E0.tp d) cty (enc x)) (l : List α) : okW ti0 E0.tp (d + 1) ty (rowsC enc l) := by
 obtain ⟨i, j, h1, h2, h3, rfl⟩ := hty
 exact ⟨i, j, h1, h2, by rw [rows_len hw, h3], okLW_rows l fun x _ => he x⟩
theorem okT_rows {α : Type} {enc : α → List AV} {ok : α → Prop} {n t e : Nat} {cs : List AV} (hi : ∃ i, ti0 t = some i ∧ i.isB = false ∧ i.ik = none ∧ i.isStr = false ∧ i.sl = true ∧ i.elem = e) (hel : ∀ n cs, okT ti0 n e cs → ∃ x, cs = enc x ∧ ok x) (h : okT ti0 n t cs) :
  ∃ l : List α, cs = [rowsC enc l] ∧ l.length ≤ 9223372036854775807 ∧ ∀ x ∈ l, ok x := by
 cases n with
 | zero => cases h
 | succ n =>
  obtain ⟨i, h1, h2, h3, h4, h5, rfl⟩ := hi
  obtain ⟨i', hi', h⟩ := h
  rw [h1] at hi'
  obtain rfl := Option.some.inj hi'
  simp only [h2, h3, h4, h5] at h
  obtain ⟨rows, rfl, hl, hr⟩ := h
  have hm : maxLen = 9223372036854775807 := by decide
  rw [hm] at hl
  have key : ∀ rows : List (List AV), (∀ r ∈ rows, okT ti0 n i.elem r) → ∃ l : List α, rows = l.map enc ∧ ∀ x ∈ l, ok x := by
   intro rows
   induction rows with
   | nil => intro _; exact ⟨[], rfl, fun x h => by cases h⟩
   | cons r rows ih =>
    intro h
    obtain ⟨l, h1, h2⟩ := ih fun r hr => h r (List.mem_cons_of_mem _ hr)
    obtain ⟨x, hx, hox⟩ := hel n r (h r List.mem_cons_self)
    exact ⟨x :: l, by rw [h1, hx]; rfl, fun y hy => by rcases List.mem_cons.1 hy with rfl | hy; exact hox; exact h2 y hy⟩
  obtain ⟨l, rfl, h2⟩ := key rows hr
  exact ⟨l, by simp, by simpa using hl, h2⟩
theorem okT_str' {n : Nat} {cs : List AV} (h : okT ti0 n 9 cs) : ∃ s : ByteArray, cs = [.sc (.string s)] ∧ okS s := by
 cases n with
 | zero => cases h
 | succ n =>
  obtain ⟨i, hi, h⟩ := h
  obtain rfl := Option.some.inj (show some _ = some i from hi)
  have hm : maxLen = 9223372036854775807 := by decide
  obtain ⟨s, h1, h2⟩ := (show ∃ s : ByteArray, cs = [.sc (.string s)] ∧ s.size ≤ maxLen from h)
  exact ⟨s, h1, by rw [hm] at h2; exact h2⟩
theorem okT_int' {n : Nat} {cs : List AV} (h : okT ti0 n 3 cs) : ∃ z : Int, cs = [.sc (.int .i64 z)] ∧ okI z := by
 cases n with
 | zero => cases h
 | succ n =>
  obtain ⟨i, hi, h⟩ := h
  obtain rfl := Option.some.inj (show some _ = some i from hi)
  obtain ⟨z, h1, h2⟩ := (show ∃ z, cs = [.sc (.int .i64 z)] ∧ (Lit.int .i64 z).wf = true from h)
  refine ⟨z, h1, ?_⟩
  have hw' : IntKind.i64.min ≤ z ∧ z ≤ IntKind.i64.max := by simpa [Lit.wf] using h2
  have e1 : IntKind.i64.min = -9223372036854775808 := by decide
  have e2 : IntKind.i64.max = 9223372036854775807 := by decide
  rw [e1, e2] at hw'
  exact hw'
theorem okT_bool' {n : Nat} {cs : List AV} (h : okT ti0 n 4 cs) : ∃ b : Bool, cs = [.sc (.bool b)] := by
 cases n with
 | zero => cases h
 | succ n =>
  obtain ⟨i, hi, h⟩ := h
  obtain rfl := Option.some.inj (show some _ = some i from hi)
  exact h
theorem okT_byte' {n : Nat} {cs : List AV} (h : okT ti0 n 5 cs) : ∃ b : UInt8, cs = [.sc (.int .u8 b.toNat)] := by
 cases n with
 | zero => cases h
 | succ n =>
  obtain ⟨i, hi, h⟩ := h
  obtain rfl := Option.some.inj (show some _ = some i from hi)
  obtain ⟨z, rfl, hw⟩ := (show ∃ z, cs = [.sc (.int .u8 z)] ∧ (Lit.int .u8 z).wf = true from h)
  have hz : 0 ≤ z ∧ z < 256 := by
   have hw' : IntKind.u8.min ≤ z ∧ z ≤ IntKind.u8.max := by simpa [Lit.wf] using hw
   have e1 : IntKind.u8.min = 0 := by decide
   have e2 : IntKind.u8.max = 255 := by decide
   rw [e1, e2] at hw'
   omega
  refine ⟨UInt8.ofNat z.toNat, ?_⟩
  have : (UInt8.ofNat z.toNat).toNat = z.toNat := by simp [UInt8.toNat_ofNat']; omega
  rw [this, Int.toNat_of_nonneg hz.1]
theorem flat_one {α : Type} (e : α → AV) (l : List α) : (l.map fun x => [e x]).flatten = l.map e := by
 induction l with
 | nil => rfl
 | cons x l ih => rw [List.map_cons, List.flatten_cons, ih]; rfl
theorem okT_bytes' {n t : Nat} {cs : List AV} (hi : ∃ i, ti0 t = some i ∧ i.isB = false ∧ i.ik = none ∧ i.isStr = false ∧ i.sl = true ∧ i.elem = 5) (h : okT ti0 n t cs) : ∃ s : ByteArray, cs = [bytesC s] ∧ okS s := by
 obtain ⟨l, rfl, h1, _⟩ := okT_rows (α := UInt8) (enc := fun b => [.sc (.int .u8 b.toNat)]) (ok := fun _ => True) hi (fun n cs h => by obtain ⟨b, h⟩ := okT_byte' h; exact ⟨b, h, trivial⟩) h
 refine ⟨⟨l.toArray⟩, ?_, ?_⟩
 ·rw [rowsC, flat_one]
  simp [bytesC, bytesAV]
  rfl
 ·exact h1
theorem okT_ints' {n t : Nat} {cs : List AV} (hi : ∃ i, ti0 t = some i ∧ i.isB = false ∧ i.ik = none ∧ i.isStr = false ∧ i.sl = true ∧ i.elem = 3) (h : okT ti0 n t cs) : ∃ l : List Int, cs = [intsC l] ∧ l.length ≤ 9223372036854775807 ∧ ∀ z ∈ l, okI z := by
 obtain ⟨l, rfl, h1, h2⟩ := okT_rows (α := Int) (enc := fun z => [.sc (.int .i64 z)]) (ok := okI) hi (fun n cs h => okT_int' h) h
 exact ⟨l, by rw [rowsC, flat_one], h1, h2⟩
theorem okT_strs' {n t : Nat} {cs : List AV} (hi : ∃ i, ti0 t = some i ∧ i.isB = false ∧ i.ik = none ∧ i.isStr = false ∧ i.sl = true ∧ i.elem = 9) (h : okT ti0 n t cs) : ∃ l : List ByteArray, cs = [strsC l] ∧ l.length ≤ 9223372036854775807 ∧ ∀ s ∈ l, okS s := by
 obtain ⟨l, rfl, h1, h2⟩ := okT_rows (α := ByteArray) (enc := fun s => [.sc (.string s)]) (ok := okS) hi (fun n cs h => okT_str' h) h
 exact ⟨l, by rw [rowsC, flat_one], h1, h2⟩
theorem okT_struct {n t : Nat} {cs : List AV} {fs : List (Nat × Nat)} (hi : ∃ i, ti0 t = some i ∧ i.isB = false ∧ i.ik = none ∧ i.isStr = false ∧ i.sl = false ∧ i.isAgg = true ∧ i.fields = fs) (h : okT ti0 n t cs) : ∃ m, okFs (okT ti0 m) fs cs := by
 cases n with
 | zero => cases h
 | succ n =>
  obtain ⟨i, h1, h2, h3, h4, h5, h6, rfl⟩ := hi
  obtain ⟨i', hi', h⟩ := h
  rw [h1] at hi'
  obtain rfl := Option.some.inj hi'
  simp only [h2, h3, h4, h5, h6] at h
  exact ⟨n, h⟩
end Go.Proofs.YtejjggnchdldoaaGreatDoor.Abs
set_option linter.unusedVariables false
set_option linter.unusedSimpArgs false
set_option maxRecDepth 100000
namespace Go.Proofs.YtejjggnchdldoaaGreatDoor.Abs
open Go
theorem tyByteS : ∃ i j, ti0 43 = some i ∧ ti0 i.elem = some j ∧ j.size = 1 ∧ j.cty.length = 1 := ⟨_, _, rfl, rfl, rfl, rfl⟩
theorem toF_ByteS (n : Nat) (hn : 1048576 < n) (s : ByteArray) (h : s.size ≤ 1048576) : tree E0 (n + 1) 43 61 [bytesC s] = some (bytesC s) := by
 have e : s.data.toList.length = s.size := by simp
 have h0 := to_flat (n := n) (bytes := 1) (fun b : UInt8 => .int .u8 b.toNat) (.sc (.int .u8 0)) (fun _ => rfl) tyByteS (fun k => f61_l0 (PR n AV) n k) (fun k m a o i H => rfl) (fun a H k => f61_eq n a H k) (by decide) s.data.toList (by rw [e]; exact h) hn
 rw [e] at h0
 exact h0
theorem eqF_ByteS (n : Nat) (hn : 1048576 < n) (tb : Nat) (s : ByteArray) (h : s.size ≤ 1048576) : tree E0 (n + 1) tb 63 [bytesC s, bytesC s] = some (.sc (.bool true)) := by
 have e : s.data.toList.length = s.size := by simp
 have h0 := eq_flat (n := n) (fun b : UInt8 => .int .u8 b.toNat) (fun x γ k => ne_u8 _ k) (fun k => f63_l0 (PR n AV) n k) (fun k m a b i H => rfl) (fun a b H k => f63_eq n a b H k) s.data.toList (by rw [e]; exact h) hn tb
 rw [e] at h0
 exact h0
theorem szF_ByteS (n : Nat) (ty : Nat) (s : ByteArray) (hmax : s.size ≤ 9223372036854775807) (left : Int) (h0 : 0 ≤ left) (h1 : left ≤ 1048576) : tree E0 (n + 1) ty 59 [bytesC s, .sc (.int .i64 left)] = some (.sc (.int .i64 (szR s.size left))) :=
 sz_len (n := n) (fun a b H k => f59_eq n a b H k) s.size _ hmax left h0 h1 ty
theorem tyIntS : ∃ i j, ti0 26 = some i ∧ ti0 i.elem = some j ∧ j.size = 1 ∧ j.cty.length = 1 := ⟨_, _, rfl, rfl, rfl, rfl⟩
theorem eqF_IntS (n : Nat) (hn : 1048576 < n) (tb : Nat) (s : List Int) (h : s.length ≤ 1048576) : tree E0 (n + 1) tb 55 [intsC s, intsC s] = some (.sc (.bool true)) :=
 eq_flat (n := n) (fun z : Int => .int .i64 z) (fun x γ k => ne_int _ k) (fun k => f55_l0 (PR n AV) n k) (fun k m a b i H => rfl) (fun a b H k => f55_eq n a b H k) s h hn tb
theorem tyStringS : ∃ i j, ti0 64 = some i ∧ ti0 i.elem = some j ∧ j.size = 1 ∧ j.cty.length = 1 := ⟨_, _, rfl, rfl, rfl, rfl⟩
theorem eqF_StringS (n : Nat) (hn : 1048576 < n) (tb : Nat) (s : List ByteArray) (h : s.length ≤ 1048576) : tree E0 (n + 1) tb 94 [strsC s, strsC s] = some (.sc (.bool true)) :=
 eq_flat (n := n) (fun s : ByteArray => .string s) (fun x γ k => ne_str _ k) (fun k => f94_l0 (PR n AV) n k) (fun k m a b i H => rfl) (fun a b H k => f94_eq n a b H k) s h hn tb
structure MsgV where
 fTopic : ByteArray
 fBody : ByteArray
 fQos : Int
 fRetain : Bool
def encMsg (x : MsgV) : List AV := .sc (.string x.fTopic) :: bytesC x.fBody :: .sc (.int .i64 x.fQos) :: .sc (.bool x.fRetain) :: []
def wtMsg (x : MsgV) : Nat := x.fTopic.size + (x.fBody.size + 0)
def okMsg (x : MsgV) : Prop := okS x.fTopic ∧ okS x.fBody ∧ okI x.fQos ∧ True
theorem lenMsg (x : MsgV) : (encMsg x).length = 4 := rfl
theorem flMsg (x : MsgV) : (encMsg x).all isFl = true := rfl
def ctyMsg : List Nat := [9, 43, 3, 4]
theorem tyMsg : ∃ i, ti0 49 = some i ∧ i.cty = ctyMsg := ⟨_, rfl, rfl⟩
theorem okWMsg (d : Nat) (x : MsgV) : okLW (okW ti0 E0.tp (d + 2)) ctyMsg (encMsg x) := ⟨trivial, ⟨okW_bytes (d := d + 0) tyByteS x.fBody, ⟨trivial, ⟨trivial, trivial⟩⟩⟩⟩
theorem okT_Msg {n : Nat} {cs : List AV} (h : okT ti0 n 45 cs) : ∃ x : MsgV, cs = encMsg x ∧ okMsg x := by
 obtain ⟨m, hf⟩ := okT_struct (fs := [(0, 9), (1, 43), (2, 3), (3, 4)]) ⟨_, rfl, rfl, rfl, rfl, rfl, rfl, rfl⟩ h
 obtain ⟨a0, b0, rfl, h0, hf⟩ := hf
 obtain ⟨v0, rfl, k0⟩ := okT_str' h0
 obtain ⟨a1, b1, rfl, h1, hf⟩ := hf
 obtain ⟨v1, rfl, k1⟩ := okT_bytes' ⟨_, rfl, rfl, rfl, rfl, rfl, rfl⟩ h1
 obtain ⟨a2, b2, rfl, h2, hf⟩ := hf
 obtain ⟨v2, rfl, k2⟩ := okT_int' h2
 obtain ⟨a3, b3, rfl, h3, hf⟩ := hf
 obtain ⟨v3, rfl⟩ := okT_bool' h3
 subst hf
 exact ⟨⟨v0, v1, v2, v3⟩, rfl, k0, k1, k2, trivial⟩
def zzMsg : List AV := [(.sc (.string ⟨#[]⟩)), .nl, (.sc (.int .i64 0)), (.sc (.bool false))]
theorem toF_Msg (n : Nat) (hn : 1048576 < n) (x : MsgV) (h : wtMsg x ≤ 1048576) : tree E0 (n + 2) 49 21 [.agg (encMsg x)] = some (.agg (encMsg x)) := by
 rw [tree_def, f21_eq, f21]
 simp only [PR_box, PR_new, PR_fadr, PR_load, PR_store, pNew]
 rw [box_fl _ _ _ (flMsg x)]
 simp only [List.length_nil, List.nil_append, List.length_cons, List.cons_append, Nat.zero_add, Nat.reduceAdd]
 refine st_sc (T := ctyMsg) (C := encMsg x) (Z := zzMsg) (v := .string x.fTopic) (o' := 1) rfl rfl rfl rfl rfl ?_
 refine st_ro (o' := 2) rfl rfl rfl rfl rfl (toF_ByteS (n + 0) (by omega) x.fBody (by unfold wtMsg at h; omega)) rfl ?_
 refine st_sc (v := .int .i64 x.fQos) (o' := 3) rfl rfl rfl rfl rfl ?_
 refine st_sc (v := .bool x.fRetain) (o' := 4) rfl rfl rfl rfl rfl ?_
 exact st_end rfl rfl rfl (flMsg x) tyMsg (okWMsg 5 x)
theorem eqF_Msg (n : Nat) (hn : 1048576 < n) (tb : Nat) (x : MsgV) (h : wtMsg x ≤ 1048576) : tree E0 (n + 2) tb 23 [.agg (encMsg x), .agg (encMsg x)] = some (.sc (.bool true)) := by
 rw [tree_def, f23_eq, f23]
 simp only [PR_box, PR_fadr, PR_load, PR_bin, PR_binB, PR_un, PR_cond]
 rw [box_fl _ _ _ (flMsg x), box_fl _ _ _ (flMsg x)]
 simp only [List.length_nil, List.nil_append, List.length_cons, List.cons_append, Nat.zero_add, Nat.reduceAdd]
 refine eq_sc (v := .string x.fTopic) rfl rfl (fun k => ne_str _ k) ?_
 refine eq_ro rfl rfl rfl (eqF_ByteS (n + 0) (by omega) _ x.fBody (by unfold wtMsg at h; omega)) ?_
 refine eq_sc (v := .int .i64 x.fQos) rfl rfl (fun k => ne_int _ k) ?_
 refine eq_b (b := x.fRetain) rfl rfl ?_
 rfl
theorem szF_Msg (n : Nat) (hn : 1048576 < n) (ty : Nat) (x : MsgV) (hx : okMsg x) (left : Int) (h0 : 0 ≤ left) (h1 : left ≤ 1048576) : tree E0 (n + 2) ty 19 [.agg (encMsg x), .sc (.int .i64 left)] = szA (wtMsg x) left := by
 obtain ⟨k0, k1, _, _⟩ := hx
 unfold wtMsg
 rw [tree_def, f19_eq, f19]
 simp only [PR_box, PR_fadr, PR_load, PR_lenS, PR_bin, PR_cond]
 rw [box_fl _ _ _ (flMsg x)]
 simp only [List.length_nil, List.nil_append, List.length_cons, List.cons_append, Nat.zero_add, Nat.reduceAdd]
 refine sz_str (s := x.fTopic) rfl h0 h1 k0 rfl fun h0 h1 => ?_
 refine sz_ro rfl h0 h1 rfl (szF_ByteS (n + 0) _ x.fBody k1 _ h0 h1) rfl fun h0 h1 => ?_
 exact sz_end h0
theorem tyMsgS : ∃ i j, ti0 31 = some i ∧ ti0 i.elem = some j ∧ j.size = 4 ∧ j.cty = ctyMsg := ⟨_, _, rfl, rfl, rfl, rfl⟩
theorem toF_MsgS (n : Nat) (hn : 1048576 < n) (l : List MsgV) (h : wtL wtMsg l ≤ 1048576) : tree E0 (n + 3) 31 71 [rowsC encMsg l] = some (rowsC encMsg l) := by
 have e := wtL_eq wtMsg l
 exact to_slice (n := n + 2) (w := 4) (bytes := 56) (cty := ctyMsg) encMsg [(.sc (.string ⟨#[]⟩)), .nl, (.sc (.int .i64 0)), (.sc (.bool false))] rfl lenMsg rfl (by decide) tyMsgS tyMsg flMsg rfl (fun k => f71_l0 (PR (n + 2) AV) (n + 2) k) (fun k m a o i H => rfl) (fun a H k => f71_eq (n + 2) a H k) (by decide) l (fun x hx => toF_Msg n hn x (by have := wtS_mem (wt := wtMsg) hx; omega)) (fun x _ => okWMsg 5 x) (by omega) (by omega)
theorem eqF_MsgS (n : Nat) (hn : 1048576 < n) (tb : Nat) (l : List MsgV) (h : wtL wtMsg l ≤ 1048576) : tree E0 (n + 3) tb 76 [rowsC encMsg l, rowsC encMsg l] = some (.sc (.bool true)) := by
 have e := wtL_eq wtMsg l
 exact eq_slice (n := n + 2) encMsg lenMsg (by decide) flMsg rfl (fun k => f76_l0 (PR (n + 2) AV) (n + 2) k) (fun k m a b i H => rfl) (fun a b H k => f76_eq (n + 2) a b H k) l (fun x hx => eqF_Msg n hn _ x (by have := wtS_mem (wt := wtMsg) hx; omega)) (by omega) (by omega) tb
theorem szF_MsgS (n : Nat) (hn : 1048576 < n) (ty : Nat) (l : List MsgV) (hmax : l.length ≤ 9223372036854775807) (hok : ∀ x ∈ l, okMsg x) (left : Int) (h0 : 0 ≤ left) (h1 : left ≤ 1048576) : tree E0 (n + 3) ty 66 [rowsC encMsg l, .sc (.int .i64 left)] = some (.sc (.int .i64 (szR (wtL wtMsg l) left))) :=
 sz_slice (n := n + 2) encMsg wtMsg lenMsg (by decide) flMsg rfl (fun k => f66_l0 (PR (n + 2) AV) (n + 2) k) (fun k m a l i H => rfl) (fun a b H k => f66_eq (n + 2) a b H k) l (fun x hx left h0 h1 => szF_Msg n hn _ x (hok x hx) left h0 h1) hmax (by omega) left h0 h1 ty
structure FlightV where
 fId : Int
 fM : MsgV
 fSt : Int
def encFlight (x : FlightV) : List AV := .sc (.int .i64 x.fId) :: (encMsg x.fM ++ .sc (.int .i64 x.fSt) :: [])
def wtFlight (x : FlightV) : Nat := wtMsg x.fM + 0
def okFlight (x : FlightV) : Prop := okI x.fId ∧ okMsg x.fM ∧ okI x.fSt
theorem lenFlight (x : FlightV) : (encFlight x).length = 6 := rfl
theorem flFlight (x : FlightV) : (encFlight x).all isFl = true := rfl
def ctyFlight : List Nat := [3, 9, 43, 3, 4, 3]
theorem tyFlight : ∃ i, ti0 100 = some i ∧ i.cty = ctyFlight := ⟨_, rfl, rfl⟩
theorem okWFlight (d : Nat) (x : FlightV) : okLW (okW ti0 E0.tp (d + 2)) ctyFlight (encFlight x) := ⟨trivial, okLW_append (ts := ctyMsg) (ts' := [3]) (okWMsg (d + 0) x.fM) ⟨trivial, trivial⟩⟩
theorem okT_Flight {n : Nat} {cs : List AV} (h : okT ti0 n 134 cs) : ∃ x : FlightV, cs = encFlight x ∧ okFlight x := by
 obtain ⟨m, hf⟩ := okT_struct (fs := [(0, 3), (1, 45), (5, 3)]) ⟨_, rfl, rfl, rfl, rfl, rfl, rfl, rfl⟩ h
 obtain ⟨a0, b0, rfl, h0, hf⟩ := hf
 obtain ⟨v0, rfl, k0⟩ := okT_int' h0
 obtain ⟨a1, b1, rfl, h1, hf⟩ := hf
 obtain ⟨v1, rfl, k1⟩ := okT_Msg h1
 obtain ⟨a2, b2, rfl, h2, hf⟩ := hf
 obtain ⟨v2, rfl, k2⟩ := okT_int' h2
 subst hf
 exact ⟨⟨v0, v1, v2⟩, rfl, k0, k1, k2⟩
def zzFlight : List AV := [(.sc (.int .i64 0)), (.sc (.string ⟨#[]⟩)), .nl, (.sc (.int .i64 0)), (.sc (.bool false)), (.sc (.int .i64 0))]
theorem toF_Flight (n : Nat) (hn : 1048576 < n) (x : FlightV) (h : wtFlight x ≤ 1048576) : tree E0 (n + 3) 100 122 [.agg (encFlight x)] = some (.agg (encFlight x)) := by
 rw [tree_def, f122_eq, f122]
 simp only [PR_box, PR_new, PR_fadr, PR_load, PR_store, pNew]
 rw [box_fl _ _ _ (flFlight x)]
 simp only [List.length_nil, List.nil_append, List.length_cons, List.cons_append, Nat.zero_add, Nat.reduceAdd]
 refine st_sc (T := ctyFlight) (C := encFlight x) (Z := zzFlight) (v := .int .i64 x.fId) (o' := 1) rfl rfl rfl rfl rfl ?_
 refine st_agg (cty := ctyMsg) (cells := encMsg x.fM) (o' := 5) rfl rfl rfl rfl rfl (flMsg _) (toF_Msg (n + 0) (by omega) x.fM (by unfold wtFlight at h; omega)) tyMsg rfl (by decide) rfl ?_
 refine st_sc (v := .int .i64 x.fSt) (o' := 6) rfl rfl rfl rfl rfl ?_
 exact st_end rfl rfl rfl (flFlight x) tyFlight (okWFlight 5 x)
theorem eqF_Flight (n : Nat) (hn : 1048576 < n) (tb : Nat) (x : FlightV) (h : wtFlight x ≤ 1048576) : tree E0 (n + 3) tb 129 [.agg (encFlight x), .agg (encFlight x)] = some (.sc (.bool true)) := by
 rw [tree_def, f129_eq, f129]
 simp only [PR_box, PR_fadr, PR_load, PR_bin, PR_binB, PR_un, PR_cond]
 rw [box_fl _ _ _ (flFlight x), box_fl _ _ _ (flFlight x)]
 simp only [List.length_nil, List.nil_append, List.length_cons, List.cons_append, Nat.zero_add, Nat.reduceAdd]
 refine eq_sc (v := .int .i64 x.fId) rfl rfl (fun k => ne_int _ k) ?_
 refine eq_agg (cells := encMsg x.fM) rfl rfl rfl (flMsg _) (eqF_Msg (n + 0) (by omega) _ x.fM (by unfold wtFlight at h; omega)) ?_
 refine eq_sc (v := .int .i64 x.fSt) rfl rfl (fun k => ne_int _ k) ?_
 rfl
theorem szF_Flight (n : Nat) (hn : 1048576 < n) (ty : Nat) (x : FlightV) (hx : okFlight x) (left : Int) (h0 : 0 ≤ left) (h1 : left ≤ 1048576) : tree E0 (n + 3) ty 117 [.agg (encFlight x), .sc (.int .i64 left)] = szA (wtFlight x) left := by
 obtain ⟨_, k1, _⟩ := hx
 unfold wtFlight
 rw [tree_def, f117_eq, f117]
 simp only [PR_box, PR_fadr, PR_load, PR_lenS, PR_bin, PR_cond]
 rw [box_fl _ _ _ (flFlight x)]
 simp only [List.length_nil, List.nil_append, List.length_cons, List.cons_append, Nat.zero_add, Nat.reduceAdd]
 refine sz_agg (cells := encMsg x.fM) rfl h0 h1 rfl (flMsg _) (szF_Msg (n + 0) (by omega) _ x.fM k1 _ h0 h1) rfl fun h0 h1 => ?_
 exact sz_end h0
theorem tyFlightS : ∃ i j, ti0 30 = some i ∧ ti0 i.elem = some j ∧ j.size = 6 ∧ j.cty = ctyFlight := ⟨_, _, rfl, rfl, rfl, rfl⟩
theorem toF_FlightS (n : Nat) (hn : 1048576 < n) (l : List FlightV) (h : wtL wtFlight l ≤ 1048576) : tree E0 (n + 4) 30 70 [rowsC encFlight l] = some (rowsC encFlight l) := by
 have e := wtL_eq wtFlight l
 exact to_slice (n := n + 3) (w := 6) (bytes := 72) (cty := ctyFlight) encFlight [(.sc (.int .i64 0)), (.sc (.string ⟨#[]⟩)), .nl, (.sc (.int .i64 0)), (.sc (.bool false)), (.sc (.int .i64 0))] rfl lenFlight rfl (by decide) tyFlightS tyFlight flFlight rfl (fun k => f70_l0 (PR (n + 3) AV) (n + 3) k) (fun k m a o i H => rfl) (fun a H k => f70_eq (n + 3) a H k) (by decide) l (fun x hx => toF_Flight n hn x (by have := wtS_mem (wt := wtFlight) hx; omega)) (fun x _ => okWFlight 5 x) (by omega) (by omega)
theorem eqF_FlightS (n : Nat) (hn : 1048576 < n) (tb : Nat) (l : List FlightV) (h : wtL wtFlight l ≤ 1048576) : tree E0 (n + 4) tb 75 [rowsC encFlight l, rowsC encFlight l] = some (.sc (.bool true)) := by
 have e := wtL_eq wtFlight l
 exact eq_slice (n := n + 3) encFlight lenFlight (by decide) flFlight rfl (fun k => f75_l0 (PR (n + 3) AV) (n + 3) k) (fun k m a b i H => rfl) (fun a b H k => f75_eq (n + 3) a b H k) l (fun x hx => eqF_Flight n hn _ x (by have := wtS_mem (wt := wtFlight) hx; omega)) (by omega) (by omega) tb
theorem szF_FlightS (n : Nat) (hn : 1048576 < n) (ty : Nat) (l : List FlightV) (hmax : l.length ≤ 9223372036854775807) (hok : ∀ x ∈ l, okFlight x) (left : Int) (h0 : 0 ≤ left) (h1 : left ≤ 1048576) : tree E0 (n + 4) ty 65 [rowsC encFlight l, .sc (.int .i64 left)] = some (.sc (.int .i64 (szR (wtL wtFlight l) left))) :=
 sz_slice (n := n + 3) encFlight wtFlight lenFlight (by decide) flFlight rfl (fun k => f65_l0 (PR (n + 3) AV) (n + 3) k) (fun k m a l i H => rfl) (fun a b H k => f65_eq (n + 3) a b H k) l (fun x hx left h0 h1 => szF_Flight n hn _ x (hok x hx) left h0 h1) hmax (by omega) left h0 h1 ty
structure OutV where
 fLast : Int
 fFl : List FlightV
 fQ : List MsgV
def encOut (x : OutV) : List AV := .sc (.int .i64 x.fLast) :: rowsC encFlight x.fFl :: rowsC encMsg x.fQ :: []
def wtOut (x : OutV) : Nat := wtL wtFlight x.fFl + (wtL wtMsg x.fQ + 0)
def okOut (x : OutV) : Prop := okI x.fLast ∧ (x.fFl.length ≤ 9223372036854775807 ∧ ∀ z ∈ x.fFl, okFlight z) ∧ (x.fQ.length ≤ 9223372036854775807 ∧ ∀ z ∈ x.fQ, okMsg z)
theorem lenOut (x : OutV) : (encOut x).length = 3 := rfl
theorem flOut (x : OutV) : (encOut x).all isFl = true := rfl
def ctyOut : List Nat := [3, 30, 31]
theorem tyOut : ∃ i, ti0 33 = some i ∧ i.cty = ctyOut := ⟨_, rfl, rfl⟩
theorem okWOut (d : Nat) (x : OutV) : okLW (okW ti0 E0.tp (d + 3)) ctyOut (encOut x) := ⟨trivial, ⟨okW_rows (d := d + 2) lenFlight tyFlightS (okWFlight (d + 0)) x.fFl, ⟨okW_rows (d := d + 2) lenMsg tyMsgS (okWMsg (d + 0)) x.fQ, trivial⟩⟩⟩
theorem okT_Out {n : Nat} {cs : List AV} (h : okT ti0 n 25 cs) : ∃ x : OutV, cs = encOut x ∧ okOut x := by
 obtain ⟨m, hf⟩ := okT_struct (fs := [(0, 3), (1, 22), (2, 23)]) ⟨_, rfl, rfl, rfl, rfl, rfl, rfl, rfl⟩ h
 obtain ⟨a0, b0, rfl, h0, hf⟩ := hf
 obtain ⟨v0, rfl, k0⟩ := okT_int' h0
 obtain ⟨a1, b1, rfl, h1, hf⟩ := hf
 obtain ⟨v1, rfl, k1⟩ := okT_rows (ok := okFlight) ⟨_, rfl, rfl, rfl, rfl, rfl, rfl⟩ (fun n cs h => okT_Flight h) h1
 obtain ⟨a2, b2, rfl, h2, hf⟩ := hf
 obtain ⟨v2, rfl, k2⟩ := okT_rows (ok := okMsg) ⟨_, rfl, rfl, rfl, rfl, rfl, rfl⟩ (fun n cs h => okT_Msg h) h2
 subst hf
 exact ⟨⟨v0, v1, v2⟩, rfl, k0, k1, k2⟩
def zzOut : List AV := [(.sc (.int .i64 0)), .nl, .nl]
theorem toF_Out (n : Nat) (hn : 1048576 < n) (x : OutV) (h : wtOut x ≤ 1048576) : tree E0 (n + 5) 33 27 [.agg (encOut x)] = some (.agg (encOut x)) := by
 rw [tree_def, f27_eq, f27]
 simp only [PR_box, PR_new, PR_fadr, PR_load, PR_store, pNew]
 rw [box_fl _ _ _ (flOut x)]
 simp only [List.length_nil, List.nil_append, List.length_cons, List.cons_append, Nat.zero_add, Nat.reduceAdd]
 refine st_sc (T := ctyOut) (C := encOut x) (Z := zzOut) (v := .int .i64 x.fLast) (o' := 1) rfl rfl rfl rfl rfl ?_
 refine st_ro (o' := 2) rfl rfl rfl rfl rfl (toF_FlightS (n + 0) (by omega) x.fFl (by unfold wtOut at h; omega)) rfl ?_
 refine st_ro (o' := 3) rfl rfl rfl rfl rfl (toF_MsgS (n + 1) (by omega) x.fQ (by unfold wtOut at h; omega)) rfl ?_
 exact st_end rfl rfl rfl (flOut x) tyOut (okWOut 4 x)
theorem eqF_Out (n : Nat) (hn : 1048576 < n) (tb : Nat) (x : OutV) (h : wtOut x ≤ 1048576) : tree E0 (n + 5) tb 30 [.agg (encOut x), .agg (encOut x)] = some (.sc (.bool true)) := by
 rw [tree_def, f30_eq, f30]
 simp only [PR_box, PR_fadr, PR_load, PR_bin, PR_binB, PR_un, PR_cond]
 rw [box_fl _ _ _ (flOut x), box_fl _ _ _ (flOut x)]
 simp only [List.length_nil, List.nil_append, List.length_cons, List.cons_append, Nat.zero_add, Nat.reduceAdd]
 refine eq_sc (v := .int .i64 x.fLast) rfl rfl (fun k => ne_int _ k) ?_
 refine eq_ro rfl rfl rfl (eqF_FlightS (n + 0) (by omega) _ x.fFl (by unfold wtOut at h; omega)) ?_
 refine eq_ro rfl rfl rfl (eqF_MsgS (n + 1) (by omega) _ x.fQ (by unfold wtOut at h; omega)) ?_
 rfl
theorem szF_Out (n : Nat) (hn : 1048576 < n) (ty : Nat) (x : OutV) (hx : okOut x) (left : Int) (h0 : 0 ≤ left) (h1 : left ≤ 1048576) : tree E0 (n + 5) ty 25 [.agg (encOut x), .sc (.int .i64 left)] = szA (wtOut x) left := by
 obtain ⟨_, k1, k2⟩ := hx
 unfold wtOut
 rw [tree_def, f25_eq, f25]
 simp only [PR_box, PR_fadr, PR_load, PR_lenS, PR_bin, PR_cond]
 rw [box_fl _ _ _ (flOut x)]
 simp only [List.length_nil, List.nil_append, List.length_cons, List.cons_append, Nat.zero_add, Nat.reduceAdd]
 refine sz_ro rfl h0 h1 rfl (szF_FlightS (n + 0) (by omega) _ x.fFl k1.1 k1.2 _ h0 h1) rfl fun h0 h1 => ?_
 refine sz_ro rfl h0 h1 rfl (szF_MsgS (n + 1) (by omega) _ x.fQ k2.1 k2.2 _ h0 h1) rfl fun h0 h1 => ?_
 exact sz_end h0
structure WantV where
 fFilter : ByteArray
 fQos : Int
def encWant (x : WantV) : List AV := .sc (.string x.fFilter) :: .sc (.int .i64 x.fQos) :: []
def wtWant (x : WantV) : Nat := x.fFilter.size + 0
def okWant (x : WantV) : Prop := okS x.fFilter ∧ okI x.fQos
theorem lenWant (x : WantV) : (encWant x).length = 2 := rfl
theorem flWant (x : WantV) : (encWant x).all isFl = true := rfl
def ctyWant : List Nat := [9, 3]
theorem tyWant : ∃ i, ti0 144 = some i ∧ i.cty = ctyWant := ⟨_, rfl, rfl⟩
theorem okWWant (d : Nat) (x : WantV) : okLW (okW ti0 E0.tp (d + 1)) ctyWant (encWant x) := ⟨trivial, ⟨trivial, trivial⟩⟩
theorem eqF_Want (n : Nat) (hn : 1048576 < n) (tb : Nat) (x : WantV) (h : wtWant x ≤ 1048576) : tree E0 (n + 1) tb 135 [.agg (encWant x), .agg (encWant x)] = some (.sc (.bool true)) := by
 rw [tree_def, f135_eq, f135]
 simp only [PR_box, PR_fadr, PR_load, PR_bin, PR_binB, PR_un, PR_cond]
 rw [box_fl _ _ _ (flWant x), box_fl _ _ _ (flWant x)]
 simp only [List.length_nil, List.nil_append, List.length_cons, List.cons_append, Nat.zero_add, Nat.reduceAdd]
 refine eq_sc (v := .string x.fFilter) rfl rfl (fun k => ne_str _ k) ?_
 refine eq_sc (v := .int .i64 x.fQos) rfl rfl (fun k => ne_int _ k) ?_
 rfl
theorem tyWantS : ∃ i j, ti0 63 = some i ∧ ti0 i.elem = some j ∧ j.size = 2 ∧ j.cty = ctyWant := ⟨_, _, rfl, rfl, rfl, rfl⟩
theorem eqF_WantS (n : Nat) (hn : 1048576 < n) (tb : Nat) (l : List WantV) (h : wtL wtWant l ≤ 1048576) : tree E0 (n + 2) tb 93 [rowsC encWant l, rowsC encWant l] = some (.sc (.bool true)) := by
 have e := wtL_eq wtWant l
 exact eq_slice (n := n + 1) encWant lenWant (by decide) flWant rfl (fun k => f93_l0 (PR (n + 1) AV) (n + 1) k) (fun k m a b i H => rfl) (fun a b H k => f93_eq (n + 1) a b H k) l (fun x hx => eqF_Want n hn _ x (by have := wtS_mem (wt := wtWant) hx; omega)) (by omega) (by omega) tb
structure PacketV where
 fType : Int
 fDup : Bool
 fQos : Int
 fRetain : Bool
 fId : Int
 fTopic : ByteArray
 fBody : ByteArray
 fClient : ByteArray
 fLevel : Int
 fClean : Bool
 fKeep : Int
 fHasWill : Bool
 fWTopic : ByteArray
 fWBody : ByteArray
 fWQos : Int
 fWRetain : Bool
 fHasUser : Bool
 fUser : ByteArray
 fHasPass : Bool
 fPass : ByteArray
 fCode : Int
 fPresent : Bool
 fWants : List WantV
 fNames : List ByteArray
 fCodes : List Int
def encPacket (x : PacketV) : List AV := .sc (.int .i64 x.fType) :: .sc (.bool x.fDup) :: .sc (.int .i64 x.fQos) :: .sc (.bool x.fRetain) :: .sc (.int .i64 x.fId) :: .sc (.string x.fTopic) :: bytesC x.fBody :: .sc (.string x.fClient) :: .sc (.int .i64 x.fLevel) :: .sc (.bool x.fClean) :: .sc (.int .i64 x.fKeep) :: .sc (.bool x.fHasWill) :: .sc (.string x.fWTopic) :: bytesC x.fWBody :: .sc (.int .i64 x.fWQos) :: .sc (.bool x.fWRetain) :: .sc (.bool x.fHasUser) :: .sc (.string x.fUser) :: .sc (.bool x.fHasPass) :: bytesC x.fPass :: .sc (.int .i64 x.fCode) :: .sc (.bool x.fPresent) :: rowsC encWant x.fWants :: strsC x.fNames :: intsC x.fCodes :: []
def wtPacket (x : PacketV) : Nat := x.fTopic.size + (x.fBody.size + (x.fClient.size + (x.fWTopic.size + (x.fWBody.size + (x.fUser.size + (x.fPass.size + (wtL wtWant x.fWants + (wtL ByteArray.size x.fNames + (x.fCodes.length + 0)))))))))
def okPacket (x : PacketV) : Prop := okI x.fType ∧ True ∧ okI x.fQos ∧ True ∧ okI x.fId ∧ okS x.fTopic ∧ okS x.fBody ∧ okS x.fClient ∧ okI x.fLevel ∧ True ∧ okI x.fKeep ∧ True ∧ okS x.fWTopic ∧ okS x.fWBody ∧ okI x.fWQos ∧ True ∧ True ∧ okS x.fUser ∧ True ∧ okS x.fPass ∧ okI x.fCode ∧ True ∧ (x.fWants.length ≤ 9223372036854775807 ∧ ∀ z ∈ x.fWants, okWant z) ∧ (x.fNames.length ≤ 9223372036854775807 ∧ ∀ z ∈ x.fNames, okS z) ∧ (x.fCodes.length ≤ 9223372036854775807 ∧ ∀ z ∈ x.fCodes, okI z)
theorem lenPacket (x : PacketV) : (encPacket x).length = 25 := rfl
theorem flPacket (x : PacketV) : (encPacket x).all isFl = true := rfl
def ctyPacket : List Nat := [3, 4, 3, 4, 3, 9, 43, 9, 3, 4, 3, 4, 9, 43, 3, 4, 4, 9, 4, 43, 3, 4, 63, 64, 26]
theorem tyPacket : ∃ i, ti0 66 = some i ∧ i.cty = ctyPacket := ⟨_, rfl, rfl⟩
theorem okWPacket (d : Nat) (x : PacketV) : okLW (okW ti0 E0.tp (d + 2)) ctyPacket (encPacket x) := ⟨trivial, ⟨trivial, ⟨trivial, ⟨trivial, ⟨trivial, ⟨trivial, ⟨okW_bytes (d := d + 0) tyByteS x.fBody, ⟨trivial, ⟨trivial, ⟨trivial, ⟨trivial, ⟨trivial, ⟨trivial, ⟨okW_bytes (d := d + 0) tyByteS x.fWBody, ⟨trivial, ⟨trivial, ⟨trivial, ⟨trivial, ⟨trivial, ⟨okW_bytes (d := d + 0) tyByteS x.fPass, ⟨trivial, ⟨trivial, ⟨okW_rows (d := d + 1) lenWant tyWantS (okWWant (d + 0)) x.fWants, ⟨okW_flat (d := d + 0) (fun s : ByteArray => .string s) tyStringS x.fNames, ⟨okW_flat (d := d + 0) (fun z : Int => .int .i64 z) tyIntS x.fCodes, trivial⟩⟩⟩⟩⟩⟩⟩⟩⟩⟩⟩⟩⟩⟩⟩⟩⟩⟩⟩⟩⟩⟩⟩⟩⟩
theorem eqF_Packet (n : Nat) (hn : 1048576 < n) (tb : Nat) (x : PacketV) (h : wtPacket x ≤ 1048576) : tree E0 (n + 3) tb 36 [.agg (encPacket x), .agg (encPacket x)] = some (.sc (.bool true)) := by
 rw [tree_def, f36_eq, f36]
 simp only [PR_box, PR_fadr, PR_load, PR_bin, PR_binB, PR_un, PR_cond]
 rw [box_fl _ _ _ (flPacket x), box_fl _ _ _ (flPacket x)]
 simp only [List.length_nil, List.nil_append, List.length_cons, List.cons_append, Nat.zero_add, Nat.reduceAdd]
 refine eq_sc (v := .int .i64 x.fType) rfl rfl (fun k => ne_int _ k) ?_
 refine eq_b (b := x.fDup) rfl rfl ?_
 refine eq_sc (v := .int .i64 x.fQos) rfl rfl (fun k => ne_int _ k) ?_
 refine eq_b (b := x.fRetain) rfl rfl ?_
 refine eq_sc (v := .int .i64 x.fId) rfl rfl (fun k => ne_int _ k) ?_
 refine eq_sc (v := .string x.fTopic) rfl rfl (fun k => ne_str _ k) ?_
 refine eq_ro rfl rfl rfl (eqF_ByteS (n + 1) (by omega) _ x.fBody (by unfold wtPacket at h; omega)) ?_
 refine eq_sc (v := .string x.fClient) rfl rfl (fun k => ne_str _ k) ?_
 refine eq_sc (v := .int .i64 x.fLevel) rfl rfl (fun k => ne_int _ k) ?_
 refine eq_b (b := x.fClean) rfl rfl ?_
 refine eq_sc (v := .int .i64 x.fKeep) rfl rfl (fun k => ne_int _ k) ?_
 refine eq_b (b := x.fHasWill) rfl rfl ?_
 refine eq_sc (v := .string x.fWTopic) rfl rfl (fun k => ne_str _ k) ?_
 refine eq_ro rfl rfl rfl (eqF_ByteS (n + 1) (by omega) _ x.fWBody (by unfold wtPacket at h; omega)) ?_
 refine eq_sc (v := .int .i64 x.fWQos) rfl rfl (fun k => ne_int _ k) ?_
 refine eq_b (b := x.fWRetain) rfl rfl ?_
 refine eq_b (b := x.fHasUser) rfl rfl ?_
 refine eq_sc (v := .string x.fUser) rfl rfl (fun k => ne_str _ k) ?_
 refine eq_b (b := x.fHasPass) rfl rfl ?_
 refine eq_ro rfl rfl rfl (eqF_ByteS (n + 1) (by omega) _ x.fPass (by unfold wtPacket at h; omega)) ?_
 refine eq_sc (v := .int .i64 x.fCode) rfl rfl (fun k => ne_int _ k) ?_
 refine eq_b (b := x.fPresent) rfl rfl ?_
 refine eq_ro rfl rfl rfl (eqF_WantS (n + 0) (by omega) _ x.fWants (by unfold wtPacket at h; omega)) ?_
 refine eq_ro rfl rfl rfl (eqF_StringS (n + 1) (by omega) _ x.fNames (by unfold wtPacket at h; have := wtL_eq ByteArray.size x.fNames; omega)) ?_
 refine eq_ro rfl rfl rfl (eqF_IntS (n + 1) (by omega) _ x.fCodes (by unfold wtPacket at h; omega)) ?_
 rfl
theorem tyPacketS : ∃ i j, ti0 55 = some i ∧ ti0 i.elem = some j ∧ j.size = 25 ∧ j.cty = ctyPacket := ⟨_, _, rfl, rfl, rfl, rfl⟩
theorem eqF_PacketS (n : Nat) (hn : 1048576 < n) (tb : Nat) (l : List PacketV) (h : wtL wtPacket l ≤ 1048576) : tree E0 (n + 4) tb 29 [rowsC encPacket l, rowsC encPacket l] = some (.sc (.bool true)) := by
 have e := wtL_eq wtPacket l
 exact eq_slice (n := n + 3) encPacket lenPacket (by decide) flPacket rfl (fun k => f29_l0 (PR (n + 3) AV) (n + 3) k) (fun k m a b i H => rfl) (fun a b H k => f29_eq (n + 3) a b H k) l (fun x hx => eqF_Packet n hn _ x (by have := wtS_mem (wt := wtPacket) hx; omega)) (by omega) (by omega) tb
end Go.Proofs.YtejjggnchdldoaaGreatDoor.Abs
set_option linter.unusedVariables false
set_option linter.unusedSimpArgs false
namespace Go.Proofs.YtejjggnchdldoaaGreatDoor.Abs
open Go
variable {β : Type} {n : Nat} {H : Heap} {r : Option β}
theorem vnil : ([] : List AV).mapM (viewV H 8) = some [] := rfl
theorem vcons {x v : AV} {xs vs : List AV} (h : Vw H x v) (hs : xs.mapM (viewV H 8) = some vs) : (x :: xs).mapM (viewV H 8) = some (v :: vs) := by
 simp only [List.mapM_cons, h.now, hs, Option.pure_def, Option.bind_eq_bind, Option.bind_some]
theorem blk_grow {i : Nat} {b : Blk} (h : H[i]? = some b) (X : List Blk) : (H ++ X)[i]? = some b := by
 rw [List.getElem?_append_left (List.getElem?_eq_some_iff.1 h).1]
 exact h
theorem lw_box {cs : List AV} {K : AV → Heap → Option β} (hf : cs.all isFl = true) (h : ∀ i, (H ++ [⟨cs, true, true⟩])[i]? = some ⟨cs, true, true⟩ → K (.ptr i 0) (H ++ [⟨cs, true, true⟩]) = r) : pBox (.agg cs) H (fun x H => K x H) = r := by
 rw [box_fl cs H _ hf]
 exact h _ (by rw [List.getElem?_append_right (Nat.le_refl _), Nat.sub_self]; rfl)
theorem lw_ld {i w : Nat} {cs : List AV} {K : AV → Option β} (hi : H[i]? = some ⟨cs, true, true⟩) (hw : cs.length = w) (h : K (.agg cs) = r) : pLoad true w (.ptr i 0) H (fun x => K x) = r := by
 have e : rdCells H i 0 w = some cs := by
  simp only [rdCells, hi, if_true, List.drop_zero, Nat.zero_add, ← hw, Nat.le_refl, List.take_length]
 rw [ldT e]
 exact h
theorem lw_sc {ty f : Nat} {args vs : List AV} {v : Value} {K : AV → Heap → Option β} (hh : plainF f = false) (hv : args.mapM (viewV H 8) = some vs) (ht : tree E0 n ty f vs = some (.sc v)) (h : K (.sc v) H = r) : (PR n β).call ty (.fn f [] []) args H (fun x H => K x H) = r := by
 rw [PR_call hh hv ht, instT_sc, List.append_nil]
 exact h
theorem lw_tree {ty f : Nat} {args vs : List AV} {t : AV} {K : AV → Heap → Option β} (hh : plainF f = false) (hv : args.mapM (viewV H 8) = some vs) (ht : tree E0 n ty f vs = some t) (hok : okW ti0 E0.tp 8 ty t) (h : ∀ X y, Vw (H ++ X) y t → K y (H ++ X) = r) : (PR n β).call ty (.fn f [] []) args H (fun x H => K x H) = r := by
 rw [PR_call hh hv ht]
 exact h _ _ (Vw_inst H ty t hok)
theorem lw_agg {ty f : Nat} {args vs cs : List AV} {K : AV → Heap → Option β} (hh : plainF f = false) (hv : args.mapM (viewV H 8) = some vs) (ht : tree E0 n ty f vs = some (.agg cs)) (hf : cs.all isFl = true) (hok : okW ti0 E0.tp 8 ty (.agg cs)) (h : ∀ X (ys : List AV), ys.length = cs.length → ys.all isLeaf = true → Vw (H ++ X) (.agg ys) (.agg cs) → K (.agg ys) (H ++ X) = r) : (PR n β).call ty (.fn f [] []) args H (fun x H => K x H) = r := by
 rw [PR_call hh hv ht, instT_agg]
 refine h _ _ (instL_len _ _ _) (instL_leaf _ _ _ hf) ?_
 have := Vw_inst H ty (.agg cs) hok
 rwa [instT_agg] at this
theorem lw_put {w : Nat} {z ys : List AV} {K : AV → Heap → Option β} (hz : z.length = w) (hy : ys.length = w) (hl : ys.all isLeaf = true) (h : ∀ i, (H ++ [⟨ys, true, true⟩])[i]? = some ⟨ys, true, true⟩ → K (.ptr i 0) (H ++ [⟨ys, true, true⟩]) = r) :
  pNew z H (fun t H => pStore w t (.agg ys) H fun H => K t H) = r := by
 have hg : (H ++ [(⟨z, true, true⟩ : Blk)])[H.length]? = some ⟨z, true, true⟩ := by rw [List.getElem?_append_right (Nat.le_refl _), Nat.sub_self]; rfl
 have hc : cellsA (.agg ys) = some ys := by
  show (if ys.all isLeaf then some ys else none) = _
  rw [if_pos hl]
 show pStore w (.ptr H.length 0) (.agg ys) (H ++ [⟨z, true, true⟩]) _ = r
 rw [st_at w H.length 0 _ ⟨z, true, true⟩ ys _ _ hg hc hy (by rw [hz]; omega) rfl]
 have hs : splice z 0 ys = ys := by
  unfold splice
  rw [List.take_zero, List.nil_append, List.drop_of_length_le (by rw [hz, hy]; omega), List.append_nil]
 have e : (H ++ [(⟨z, true, true⟩ : Blk)]).set H.length ⟨ys, true, true⟩ = H ++ [⟨ys, true, true⟩] := by
  rw [List.set_append_right _ _ (Nat.le_refl _), Nat.sub_self]
  rfl
 simp only [hs, e]
 exact h _ (by rw [List.getElem?_append_right (Nat.le_refl _), Nat.sub_self]; rfl)
theorem lw_sz {ty f W : Nat} {args vs : List AV} {left : Int} {A : Heap → Option β} {K : AV → Heap → Option β} (hh : plainF f = false) (hv : args.mapM (viewV H 8) = some vs) (ht : tree E0 n ty f vs = some (.sc (.int .i64 (szR W left)))) (h0 : 0 ≤ left) (hA : A H = r) (h : (W : Int) ≤ left → K (.sc (.int .i64 (left - W))) H = r) :
  (PR n β).call ty (.fn f [] []) args H (fun t H => pBin .lss t (.sc (.int .i64 0)) fun t' => pCond t' (A H) (K t H)) = r := by
 rw [PR_call hh hv ht, instT_sc, List.append_nil]
 simp only
 rw [lss64, cond_b]
 by_cases hw : left < W
 ·have e : szR W left = -1 := by rw [szR, if_pos hw]
  rw [e, if_pos (by decide)]
  exact hA
 ·have e : szR W left = left - W := by rw [szR, if_neg hw]
  rw [e, if_neg (by simpa using (show ¬ left - (W : Int) < 0 by omega))]
  exact h (by omega)
theorem lw_str {s : ByteArray} {A K : Option β} (hA : A = r) (h : s.size ≤ 1048576 → K = r) : (pLenS (.sc (.string s)) fun t => pBin .gtr t (.sc (.int .i64 1048576)) fun t' => pCond t' A K) = r := by
 simp only [pLenS, asS, Option.bind_some]
 show pCond (.sc (.bool (decide ((s.size : Int) > 1048576)))) A K = r
 rw [cond_b]
 by_cases hs : s.size ≤ 1048576
 ·rw [if_neg (by simp; omega)]
  exact h hs
 ·rw [if_pos (by simp; omega)]
  exact hA
theorem lw_neb {b : Bool} {A K : Option β} (h : K = r) : (pBinB .neq (.sc (.bool b)) (.sc (.bool b)) fun t => pCond t A K) = r := by
 simp only [pBinB, asB, Option.bind_some, binB, beq_self_eq_true, Bool.not_true]
 exact h
theorem lw_nei {z : Int} {A K : Option β} (h : K = r) : (pBin .neq (.sc (.int .i64 z)) (.sc (.int .i64 z)) fun t => pCond t A K) = r := by
 rw [ne_int, cond_b]
 exact h
theorem lw_eq {ty f : Nat} {args vs : List AV} {A : Heap → Option β} {K : Heap → Option β} (hh : plainF f = false) (hv : args.mapM (viewV H 8) = some vs) (ht : tree E0 n ty f vs = some (.sc (.bool true))) (h : K H = r) : (PR n β).call ty (.fn f [] []) args H (fun t H => pUn .not t fun t' => pCond t' (A H) (K H)) = r := by
 rw [PR_call hh hv ht, instT_sc, List.append_nil]
 exact h
theorem eql64 (a b : Int) (k : AV → Option β) : pBin .eql (.sc (.int .i64 a)) (.sc (.int .i64 b)) k = k (.sc (.bool (a == b))) := rfl
theorem neq64 (a b : Int) (k : AV → Option β) : pBin .neq (.sc (.int .i64 a)) (.sc (.int .i64 b)) k = k (.sc (.bool (a != b))) := rfl
theorem leq64 (a b : Int) (k : AV → Option β) : pBin .leq (.sc (.int .i64 a)) (.sc (.int .i64 b)) k = k (.sc (.bool (decide (a ≤ b)))) := rfl
theorem gtr64 (a b : Int) (k : AV → Option β) : pBin .gtr (.sc (.int .i64 a)) (.sc (.int .i64 b)) k = k (.sc (.bool (decide (a > b)))) := rfl
theorem geq64 (a b : Int) (k : AV → Option β) : pBin .geq (.sc (.int .i64 a)) (.sc (.int .i64 b)) k = k (.sc (.bool (decide (a ≥ b)))) := rfl
theorem add64 (a b : Int) (k : AV → Option β) : pBin .add (.sc (.int .i64 a)) (.sc (.int .i64 b)) k = k (.sc (.int .i64 (IntKind.i64.wrap (a + b)))) := rfl
theorem sub64w (a b : Int) (k : AV → Option β) : pBin .sub (.sc (.int .i64 a)) (.sc (.int .i64 b)) k = k (.sc (.int .i64 (IntKind.i64.wrap (a - b)))) := rfl
theorem mul64 (a b : Int) (k : AV → Option β) : pBin .mul (.sc (.int .i64 a)) (.sc (.int .i64 b)) k = k (.sc (.int .i64 (IntKind.i64.wrap (a * b)))) := rfl
theorem eqlS (a b : ByteArray) (k : AV → Option β) : pBin .eql (.sc (.string a)) (.sc (.string b)) k = k (.sc (.bool (a.toList == b.toList))) := rfl
theorem neqS (a b : ByteArray) (k : AV → Option β) : pBin .neq (.sc (.string a)) (.sc (.string b)) k = k (.sc (.bool (!(a.toList == b.toList)))) := rfl
theorem eqlB (a b : Bool) (k : AV → Option β) : pBinB .eql (.sc (.bool a)) (.sc (.bool b)) k = k (.sc (.bool (a == b))) := rfl
theorem neqB (a b : Bool) (k : AV → Option β) : pBinB .neq (.sc (.bool a)) (.sc (.bool b)) k = k (.sc (.bool (!(a == b)))) := rfl
theorem notB (a : Bool) (k : AV → Option β) : pUn .not (.sc (.bool a)) k = k (.sc (.bool (!a))) := rfl
theorem gdT (m : (AV → Heap → Option β) → Option β) (k : AV → Heap → Option β) : pGuard (.sc (.bool true)) true H m k = m k := rfl
theorem gdF (m : (AV → Heap → Option β) → Option β) (k : AV → Heap → Option β) : pGuard (.sc (.bool false)) true H m k = k (.sc undef) H := rfl
theorem gfT (m : (AV → Heap → Option β) → Option β) (k : AV → Heap → Option β) : pGuard (.sc (.bool true)) false H m k = k (.sc undef) H := rfl
theorem gfF (m : (AV → Heap → Option β) → Option β) (k : AV → Heap → Option β) : pGuard (.sc (.bool false)) false H m k = m k := rfl
theorem pkT (a b : Value) (k : AV → Option β) : pPick (.sc (.bool true)) (.sc a) (.sc b) k = k (.sc a) := rfl
theorem pkF (a b : Value) (k : AV → Option β) : pPick (.sc (.bool false)) (.sc a) (.sc b) k = k (.sc b) := rfl
theorem fadr_p (o id off : Nat) (k : AV → Option β) : pFadr o (.ptr id off) k = k (.ptr id (off + o)) := rfl
theorem lenSc (s : ByteArray) (k : AV → Option β) : pLenS (.sc (.string s)) k = k (.sc (.int .i64 s.size)) := rfl
theorem own_v (ty : Nat) (H : Heap) (v : Value) : ownTree ti0 E0.tp ty H (.sc v) = some (.sc v) := rfl
theorem okW_agg {ty : Nat} {cty : List Nat} {cs : List AV} (hty : ∃ i, ti0 ty = some i ∧ i.cty = cty) (h : okLW (okW ti0 E0.tp 7) cty cs) : okW ti0 E0.tp 8 ty (.agg cs) := by
 obtain ⟨i, hi, rfl⟩ := hty
 exact ⟨i, hi, h⟩
end Go.Proofs.YtejjggnchdldoaaGreatDoor.Abs
set_option linter.unusedVariables false
set_option linter.unusedSimpArgs false
namespace Go.Proofs.YtejjggnchdldoaaGreatDoor.Abs
open Go
section
variable {β : Type} {n : Nat} {H : Heap} {r : Option β} {K : AV → Option β} {KH : AV → Heap → Option β}
theorem w_box {cs : List AV} (hf : cs.all isFl = true) (h : ∀ i, i = H.length → (H ++ [⟨cs, true, true⟩])[i]? = some ⟨cs, true, true⟩ → KH (.ptr i 0) (H ++ [⟨cs, true, true⟩]) = r) : pBox (.agg cs) H (fun x H => KH x H) = r := by
 rw [box_fl cs H _ hf]
 exact h _ rfl (by rw [List.getElem?_append_right (Nat.le_refl _), Nat.sub_self]; rfl)
theorem w_new {cs : List AV} (h : ∀ i, i = H.length → (H ++ [⟨cs, true, true⟩])[i]? = some ⟨cs, true, true⟩ → KH (.ptr i 0) (H ++ [⟨cs, true, true⟩]) = r) : pNew cs H (fun x H => KH x H) = r :=
 h _ rfl (by rw [List.getElem?_append_right (Nat.le_refl _), Nat.sub_self]; rfl)
theorem w_newSl {len sz : Nat} {cs : List AV} (h : ∀ i, i = H.length → (H ++ [⟨cs, true, true⟩])[i]? = some ⟨cs, true, true⟩ → KH (.sl i 0 len sz) (H ++ [⟨cs, true, true⟩]) = r) : pNewSl len sz cs true H (fun x H => KH x H) = r :=
 h _ rfl (by rw [List.getElem?_append_right (Nat.le_refl _), Nat.sub_self]; rfl)
theorem w_fill {zs cs : List AV} {ps : List (Nat × Nat × AV)} {KL : List AV → Option β} (hf : fillA zs ps = some cs) (h : KL cs = r) : ((fillA zs ps).bind fun c => KL c) = r := by
 rw [hf]
 exact h
theorem w_fadr {o id off : Nat} (h : K (.ptr id (off + o)) = r) : pFadr o (.ptr id off) (fun x => K x) = r := h
theorem w_fadr_rp {o : Nat} {cells : List AV} (h : K (.rp (cells.drop o)) = r) : pFadr o (.rp cells) (fun x => K x) = r := h
theorem w_ld {i off : Nat} {cs : List AV} {c : AV} (hi : H[i]? = some ⟨cs, true, true⟩) (hl : off < cs.length) (hc : (cs.drop off).take 1 = [c]) (h : K c = r) : pLoad false 1 (.ptr i off) H (fun x => K x) = r := by
 have e : rdCells H i off 1 = some [c] := by
  simp only [rdCells, hi, if_true]
  rw [if_pos (by omega), hc]
 rw [ldF e]
 exact h
theorem w_ldA {i off w : Nat} {cs ds : List AV} (hi : H[i]? = some ⟨cs, true, true⟩) (hl : off + w ≤ cs.length) (hc : (cs.drop off).take w = ds) (h : K (.agg ds) = r) : pLoad true w (.ptr i off) H (fun x => K x) = r := by
 have e : rdCells H i off w = some ds := by
  simp only [rdCells, hi, if_true]
  rw [if_pos hl, hc]
 rw [ldT e]
 exact h
theorem w_ld_rp {cells : List AV} {c : AV} (hc : cells.take 1 = [c]) (h : K c = r) : pLoad false 1 (.rp cells) H (fun x => K x) = r := by
 cases cells with
 | nil => cases hc
 | cons x xs =>
  obtain rfl : x = c := by simpa using hc
  rw [ld1_rp]
  exact h
theorem w_ldA_rp {w : Nat} {cells ds : List AV} (hl : w ≤ cells.length) (hc : cells.take w = ds) (h : K (.agg ds) = r) : pLoad true w (.rp cells) H (fun x => K x) = r := by
 simp only [pLoad, hl, if_true, hc]
 exact h
theorem w_bin {op : BinOp} {x y v : AV} (e : ∀ k : AV → Option β, pBin op x y k = k v) (h : K v = r) : pBin op x y (fun t => K t) = r := (e _).trans h
theorem w_binB {op : BinOp} {x y v : AV} (e : ∀ k : AV → Option β, pBinB op x y k = k v) (h : K v = r) : pBinB op x y (fun t => K t) = r := (e _).trans h
theorem w_binA {op : BinOp} {qs : List Nat} {x y v : AV} (e : ∀ k : AV → Option β, pBinA op qs x y k = k v) (h : K v = r) : pBinA op qs x y (fun t => K t) = r := (e _).trans h
theorem w_not {b : Bool} (h : K (.sc (.bool (!b))) = r) : pUn .not (.sc (.bool b)) (fun t => K t) = r := h
theorem w_lenS {s : ByteArray} (h : K (.sc (.int .i64 s.size)) = r) : pLenS (.sc (.string s)) (fun t => K t) = r := h
theorem w_len {m : Nat} {cs : List AV} (h : K (.sc (.int .i64 m)) = r) : pLen (.ro m cs) (fun t => K t) = r := h
theorem w_split {g : Prop} (b : Bool) (ht : b = true → g) (hf : b = false → g) : g := by
 cases h : b
 ·exact hf h
 ·exact ht h
theorem w_cT {b : Bool} {x y : Option β} (hb : b = true) (h : x = r) : pCond (.sc (.bool b)) x y = r := by subst hb; exact h
theorem w_cF {b : Bool} {x y : Option β} (hb : b = false) (h : y = r) : pCond (.sc (.bool b)) x y = r := by subst hb; exact h
theorem w_gT {b : Bool} {m : (AV → Heap → Option β) → Option β} (hb : b = true) (h : m (fun x H => KH x H) = r) : pGuard (.sc (.bool b)) true H m (fun x H => KH x H) = r := by subst hb; exact h
theorem w_gF {b : Bool} {m : (AV → Heap → Option β) → Option β} (hb : b = false) (h : KH (.sc undef) H = r) : pGuard (.sc (.bool b)) true H m (fun x H => KH x H) = r := by subst hb; exact h
theorem w_hT {b : Bool} {m : (AV → Heap → Option β) → Option β} (hb : b = false) (h : m (fun x H => KH x H) = r) : pGuard (.sc (.bool b)) false H m (fun x H => KH x H) = r := by subst hb; exact h
theorem w_hF {b : Bool} {m : (AV → Heap → Option β) → Option β} (hb : b = true) (h : KH (.sc undef) H = r) : pGuard (.sc (.bool b)) false H m (fun x H => KH x H) = r := by subst hb; exact h
theorem w_u {t : Bool} {m : (AV → Heap → Option β) → Option β} (h : KH (.sc undef) H = r) : pGuard (.sc undef) t H m (fun x H => KH x H) = r := h
theorem w_pT {b : Bool} {x y : AV} (hb : b = true) (h : K x = r) : pPick (.sc (.bool b)) x y (fun t => K t) = r := by
 subst hb
 cases x <;> cases y <;> exact h
theorem w_pF {b : Bool} {x y : AV} (hb : b = false) (h : K y = r) : pPick (.sc (.bool b)) x y (fun t => K t) = r := by
 subst hb
 cases x <;> cases y <;> exact h
def all2 {α : Type} (p : α → α → Bool) : List α → List α → Bool
 | x :: a, y :: b => if p x y then all2 p a b else false
 | _, _ => true
theorem eqv_loop {α : Type} {w : Nat} (enc : α → List AV) (hw : ∀ x, (enc x).length = w) (h0 : 0 < w) (pk : α → AV) (LOAD : AV → (AV → Option β) → Option β) (hld : ∀ x rest k, LOAD (.rp (enc x ++ rest)) k = k (pk x)) (NE : AV → AV → (AV → Option β) → Option β) (pr : α → α → Bool) (hne : ∀ x y k, NE (pk x) (pk y) k = k (.sc (.bool (!(pr x y)))))
  (l q : List α) (hlq : l.length = q.length) (hlen : l.length ≤ 1048576) (L : Nat → AV → Option β) (KF KT : Option β)
  (hL : ∀ m i, L (m + 1) i = pBin .lss i (.sc (.int .i64 l.length)) fun t14 => pCond t14 (pIadr w (rowsC enc l) i fun t19 => LOAD t19 fun t20 => pIadr w (rowsC enc q) i fun t23 => LOAD t23 fun t24 => NE t20 t24 fun t25 => pCond t25 KF (pBin .add i (.sc (.int .i64 1)) fun t16 => L m t16)) KT) :
  ∀ (s t pl pq : List α) (m : Nat), l = pl ++ s → q = pq ++ t → pl.length = pq.length → s.length < m → L m (.sc (.int .i64 pl.length)) = if all2 pr s t then KT else KF
 | [], t, pl, pq, m + 1, hl, hq, hpp, hm => by
  rw [List.append_nil] at hl
  subst hl
  rw [hL, lss_nat, cond_b]
  cases t <;> simp [all2]
 | x :: s, [], pl, pq, m + 1, hl, hq, hpp, hm => by
  have h1 := congrArg List.length hl
  have h2 := congrArg List.length hq
  simp only [List.length_append, List.length_cons, List.length_nil] at h1 h2
  omega
 | x :: s, y :: t, pl, pq, m + 1, hl, hq, hpp, hm => by
  have hlt : pl.length < l.length := by rw [hl]; simp
  rw [hL, lss_nat, cond_b, if_pos (by simpa using hlt)]
  have hel := fun k => el_ro (β := β) hw h0 pl x s k
  rw [← hl] at hel
  have heq := fun k => el_ro (β := β) hw h0 pq y t k
  rw [← hq, ← hpp] at heq
  rw [hel, hld, heq, hld, hne, cond_b, all2]
  cases hpx : pr x y
  ·simp
  ·simp only [Bool.not_true, Bool.false_eq_true, if_false, if_true]
   rw [inc_nat _ _ (by omega)]
   have ih := eqv_loop enc hw h0 pk LOAD hld NE pr hne l q hlq hlen L KF KT hL s t (pl ++ [x]) (pq ++ [y]) m (by rw [hl]; simp) (by rw [hq]; simp) (by simp [hpp]) (by simpa using hm)
   rw [List.length_append, List.length_singleton] at ih
   exact ih
def encI (z : Int) : List AV := [.sc (.int .i64 z)]
def encS (s : ByteArray) : List AV := [.sc (.string s)]
theorem ints_rows (l : List Int) : intsC l = rowsC encI l := by
 rw [rowsC, show (encI) = fun z => [AV.sc (.int .i64 z)] from rfl, flat_one]
theorem strs_rows (l : List ByteArray) : strsC l = rowsC encS l := by
 rw [rowsC, show (encS) = fun z => [AV.sc (.string z)] from rfl, flat_one]
theorem ldI (z : Int) (rest : List AV) (H : Heap) (k : AV → Option β) : pLoad false 1 (.rp (encI z ++ rest)) H k = k (.sc (.int .i64 z)) := ld1_rp _ _ _ _
theorem ldS (z : ByteArray) (rest : List AV) (H : Heap) (k : AV → Option β) : pLoad false 1 (.rp (encS z ++ rest)) H k = k (.sc (.string z)) := ld1_rp _ _ _ _
def eqI (x y : Int) : Bool := x == y
def eqSt (x y : ByteArray) : Bool := x.toList == y.toList
def eqList {α : Type} (p : α → α → Bool) (a b : List α) : Bool := if a.length = b.length then all2 p a b else false
theorem neI (x y : Int) (k : AV → Option β) : pBin .neq (.sc (.int .i64 x)) (.sc (.int .i64 y)) k = k (.sc (.bool (!(eqI x y)))) := rfl
theorem neS (x y : ByteArray) (k : AV → Option β) : pBin .neq (.sc (.string x)) (.sc (.string y)) k = k (.sc (.bool (!(eqSt x y)))) := rfl
theorem binA_ne (qs : List Nat) (cs ds : List AV) (b : Bool) (h : eqCells qs cs ds = some b) (k : AV → Option β) : pBinA .neq qs (.agg cs) (.agg ds) k = k (.sc (.bool (!b))) := by
 simp only [pBinA, h, Option.bind_some]
theorem w_merge {X : Option β} (e : Bool) {K : Bool → Option β} (h1 : ∀ b, b = e → X = K b) (h2 : ∀ b, b = e → K b = r) : X = r := (h1 e rfl).trans (h2 e rfl)
theorem w_pTb {c v b : Bool} {y : AV} (hc : c = true) (hv : v = b) (h : K (.sc (.bool b)) = r) : pPick (.sc (.bool c)) (.sc (.bool v)) y (fun t => K t) = r := by
 subst hc
 subst hv
 cases y <;> exact h
theorem w_pFb {c v b : Bool} {x : AV} (hc : c = false) (hv : v = b) (h : K (.sc (.bool b)) = r) : pPick (.sc (.bool c)) x (.sc (.bool v)) (fun t => K t) = r := by
 subst hc
 subst hv
 cases x <;> exact h
theorem mAT {b c v : Bool} (hb : b = (c && v)) (h : c = true) : v = b := by rw [hb, h]; rfl
theorem mAF {b c v : Bool} (hb : b = (c && v)) (h : c = false) : false = b := by rw [hb, h]; rfl
theorem mOT {b c v : Bool} (hb : b = (c || v)) (h : c = true) : true = b := by rw [hb, h]; rfl
theorem mOF {b c v : Bool} (hb : b = (c || v)) (h : c = false) : v = b := by rw [hb, h]; rfl
theorem w_letJ {α : Sort _} {γ : Type} {x : α} {f : α → Option γ} {r : Option γ} (h : f x = r) : letJ x f = r := h
theorem w_endB {ty : Nat} {b b' : Bool} (h : b = b') : ownTree ti0 E0.tp ty H (.sc (.bool b)) = some (.sc (.bool b')) := by subst h; rfl
theorem w_endI {ty : Nat} {b b' : Int} (h : b = b') : ownTree ti0 E0.tp ty H (.sc (.int .i64 b)) = some (.sc (.int .i64 b')) := by subst h; rfl
theorem w_iadr0 {α : Type} {w : Nat} {enc : α → List AV} {l : List α} (hw : ∀ x, (enc x).length = w) (h0 : 0 < w) (hl : 0 < l.length) (h : ∀ x t, l = x :: t → K (.rp (enc x ++ (t.map enc).flatten)) = r) : pIadr w (rowsC enc l) (.sc (.int .i64 0)) (fun t => K t) = r := by
 cases l with
 | nil => simp at hl
 | cons x t =>
  have := el_ro (β := β) hw h0 [] x t (fun t => K t)
  simp only [List.nil_append, List.length_nil, Int.natCast_zero] at this
  rw [this]
  exact h x t rfl
theorem PR_callC {ty : Nat} {f : FuncId} {caps args vs : List AV} {t : AV} {k : AV → Heap → Option β} (hh : plainF f = false) (hv : (args ++ caps).mapM (viewV H 8) = some vs) (ht : tree E0 n ty f vs = some t) :
  (PR n β).call ty (.fn f [] caps) args H k = k (instT ti0 E0.tp H.length ty t).1 (H ++ (instT ti0 E0.tp H.length ty t).2) := by
 show callF E0 (evalFn E0 n) ty f ([] ++ args ++ caps) H k = _
 simp only [callF, plain_ext hh, plain_hm hh, List.nil_append, Bool.false_eq_true, if_false, callT, hv, Option.bind_some]
 have ht : treeOf E0 (evalFn E0 n) ty f vs = some t := ht
 rw [ht]
 rfl
theorem Vw_rp (H : Heap) (cs : List AV) : Vw H (.rp cs) (.rp cs) := fun _ => rfl
def idxOf {α : Type} (p : α → Bool) : List α → Nat → Int
 | [], _ => -1
 | x :: l, i => if p x then i else idxOf p l (i + 1)
theorem index_loop {α : Type} {tb g w : Nat} {caps : List AV} (enc : α → List AV) (pr : α → Bool) (k : AV → Heap → Option β) (hw : ∀ x, (enc x).length = w) (h0 : 0 < w) (hfl : ∀ x, (enc x).all isFl = true) (hh : plainF g = false) (hcv : ∀ H, caps.mapM (viewV H 8) = some caps) (L : Nat → AV → AV → AV → AV → Heap → Option β)
  (hL : ∀ m a b c i H, L (m + 1) a b c i H = pBin .lss i c fun t9 => pCond t9 (pIadr w a i fun t14 => pLoad true w t14 H fun t15 => (PR n β).call tb b [t15] H fun t16 H => pCond t16 (k i H) (pBin .add i (.sc (.int .i64 1)) fun t18 => L m a b c t18 H)) (k (.sc (.int .i64 (-1))) H))
  (l : List α) (hp : ∀ x ∈ l, tree E0 n tb g (.agg (enc x) :: caps) = some (.sc (.bool (pr x)))) (hlen : l.length ≤ 1048576) (H : Heap) : ∀ (t pre : List α) (m : Nat), l = pre ++ t → t.length < m →
   L m (rowsC enc l) (.fn g [] caps) (.sc (.int .i64 l.length)) (.sc (.int .i64 pre.length)) H = k (.sc (.int .i64 (idxOf pr t pre.length))) H
 | [], pre, m + 1, hl, hm => by
  rw [List.append_nil] at hl
  subst hl
  rw [hL, lss_nat, cond_b]
  simp [idxOf]
 | x :: t, pre, m + 1, hl, hm => by
  have hlt : pre.length < l.length := by rw [hl]; simp
  rw [hL, lss_nat, cond_b, if_pos (by simpa using hlt)]
  have hel := fun k => el_ro (β := β) hw h0 pre x t k
  rw [← hl] at hel
  rw [hel, ld_rp w _ _ _ _ (hw x)]
  rw [PR_callC (vs := .agg (enc x) :: caps) hh (by simp only [List.cons_append, List.nil_append, List.mapM_cons, (Vw_agg _ (hfl x)).now, hcv]; rfl) (hp x (by rw [hl]; simp)), instT_sc, List.append_nil]
  simp only
  rw [cond_b, idxOf]
  cases hpx : pr x
  ·simp only [Bool.false_eq_true, if_false]
   rw [inc_nat _ _ (by omega)]
   have ih := index_loop enc pr k hw h0 hfl hh hcv L hL l hp hlen H t (pre ++ [x]) m (by rw [hl]; simp) (by simpa using hm)
   rw [List.length_append, List.length_singleton] at ih
   exact ih
  ·simp only [if_true]
theorem Vw_fn1 {i g : Nat} {cs : List AV} (hi : H[i]? = some ⟨cs, true, true⟩) (hfl : cs.all isFl = true) : Vw H (.fn g [] [.ptr i 0]) (.fn g [] [.rp cs]) := fun X => by
 have hg : (H ++ X)[i]? = some ⟨cs, true, true⟩ := blk_grow hi X
 have hr : rdCells (H ++ X) i 0 (cs.length - 0) = some cs := by
  simp only [rdCells, hg, if_true, Nat.sub_zero, Nat.zero_add, Nat.le_refl, List.drop_zero, List.take_length]
 have hp : viewV (H ++ X) 7 (.ptr i 0) = some (.rp cs) := by
  show ((H ++ X)[i]?).bind (fun b => (rdCells (H ++ X) i 0 (b.cells.length - 0)).bind fun cs => (cs.mapM (viewV (H ++ X) 6)).bind fun vs => some (AV.rp vs)) = _
  rw [hg, Option.bind_some]
  show (rdCells (H ++ X) i 0 (cs.length - 0)).bind _ = _
  rw [hr, Option.bind_some, fl_view hfl]
  rfl
 show (([] : List AV).mapM (viewV (H ++ X) 7)).bind (fun us => ([AV.ptr i 0].mapM (viewV (H ++ X) 7)).bind fun cs => some (AV.fn g us cs)) = _
 simp only [List.mapM_cons, List.mapM_nil, hp, Option.pure_def, Option.bind_eq_bind, Option.bind_some]
theorem w_boxS {v : Value} (hv : leafV v = true) (h : ∀ i, i = H.length → (H ++ [⟨[.sc v], true, true⟩])[i]? = some ⟨[.sc v], true, true⟩ → KH (.ptr i 0) (H ++ [⟨[.sc v], true, true⟩]) = r) : pBox (.sc v) H (fun x H => KH x H) = r := by
 have e : cellsA (.sc v) = some [.sc v] := by simp only [cellsA, isLeaf, hv, if_true]
 show (cellsA (.sc v)).bind _ = r
 rw [e]
 exact h _ rfl (by rw [List.getElem?_append_right (Nat.le_refl _), Nat.sub_self]; rfl)
theorem idx_s (s : ByteArray) (i : Nat) (b : UInt8) (k : AV → Option β) (h : s.data.toList[i]? = some b) : pIdx (.sc (.string s)) (.sc (.int .i64 i)) k = k (.sc (.int .u8 b.toNat)) := by
 have hlt : i < s.size := by
  have := (List.getElem?_eq_some_iff.1 h).1
  simpa using this
 have hb : s[i]'hlt = b := by
  have := (List.getElem?_eq_some_iff.1 h).2
  simp only [Array.getElem_toList] at this
  exact this
 simp only [pIdx, asI, asS, Option.bind_some, Int.toNat_natCast]
 rw [dif_pos ⟨by omega, hlt⟩, hb]
theorem slice_rows {α : Type} {w : Nat} {enc : α → List AV} (hw : ∀ x, (enc x).length = w) (l : List α) (d : Nat) (hd : d ≤ l.length) (k : AV → Option β) : pSlice w (rowsC enc l) (some (.sc (.int .i64 d))) none k = k (rowsC enc (l.drop d)) := by
 simp only [pSlice, lenA, bound, asI, Option.bind_some]
 rw [if_pos (by omega)]
 have h1 : ((l.length : Int) - d).toNat = (l.drop d).length := by rw [List.length_drop]; omega
 have h2 : ((l.map enc).flatten.drop (d * w)) = ((l.drop d).map enc).flatten := by
  have := drop_rows hw (l.take d) (l.drop d)
  rw [List.take_append_drop, List.length_take, Nat.min_eq_left hd] at this
  exact this
 rw [h1, Int.toNat_natCast, h2, ← rows_len hw, List.take_length]
theorem eqfunc_loop {α : Type} {tb g w : Nat} (enc : α → List AV) (pr : α → α → Bool) (k : AV → Heap → Option β) (hk : ∀ v H H', k (.sc v) H = k (.sc v) H') (z : List AV) (hz : z.length = w) (hw : ∀ x, (enc x).length = w) (h0 : 0 < w) (hfl : ∀ x, (enc x).all isFl = true) (hh : plainF g = false) (L : Nat → AV → AV → AV → AV → AV → Heap → Option β)
  (hL : ∀ m b f a c i H, L (m + 1) b f a c i H = pBin .lss i c fun t18 => pCond t18 (pIadr w a i fun t20 => pLoad true w t20 H fun t21 => pNew z H fun t8 H => pStore w t8 t21 H fun H => pIadr w b i fun t24 => pLoad true w t24 H fun t25 => pNew z H fun t9 H => pStore w t9 t25 H fun H => pLoad true w t8 H fun t27 => pLoad true w t9 H fun t28 => (PR n β).call tb f [t27, t28] H fun t29 H => pUn .not t29 fun t30 => pCond t30 (k (.sc (.bool false)) H) (pBin .add i (.sc (.int .i64 1)) fun t31 => L m b f a c t31 H)) (k (.sc (.bool true)) H))
  (l q : List α) (hp : ∀ x y, x ∈ l → y ∈ q → tree E0 n tb g [.agg (enc x), .agg (enc y)] = some (.sc (.bool (pr x y)))) (hlq : l.length = q.length) (hlen : l.length ≤ 1048576) : ∀ (s t pl pq : List α) (m : Nat) (H : Heap), l = pl ++ s → q = pq ++ t → pl.length = pq.length → s.length < m →
   L m (rowsC enc q) (.fn g [] []) (rowsC enc l) (.sc (.int .i64 l.length)) (.sc (.int .i64 pl.length)) H = k (.sc (.bool (all2 pr s t))) []
 | [], t, pl, pq, m + 1, H, hl, hq, hpp, hm => by
  have ht : t = [] := by
   have h1 := congrArg List.length hl
   have h2 := congrArg List.length hq
   simp only [List.length_append, List.length_nil] at h1 h2
   exact List.eq_nil_of_length_eq_zero (by omega)
  subst ht
  rw [List.append_nil] at hl
  subst hl
  rw [hL, lss_nat, cond_b]
  simp only [Nat.lt_irrefl, decide_false, Bool.false_eq_true, if_false, all2]
  exact hk _ _ _
 | x :: s, [], pl, pq, m + 1, H, hl, hq, hpp, hm => by
  have h1 := congrArg List.length hl
  have h2 := congrArg List.length hq
  simp only [List.length_append, List.length_cons, List.length_nil] at h1 h2
  omega
 | x :: s, y :: t, pl, pq, m + 1, H, hl, hq, hpp, hm => by
  have hlt : pl.length < l.length := by rw [hl]; simp
  rw [hL, lss_nat, cond_b, if_pos (by simpa using hlt)]
  have hel := fun k => el_ro (β := β) hw h0 pl x s k
  rw [← hl] at hel
  have heq := fun k => el_ro (β := β) hw h0 pq y t k
  rw [← hq, ← hpp] at heq
  rw [hel, ld_rp w _ _ _ _ (hw x)]
  refine lw_put hz (hw x) (fl_leaf (hfl x)) fun i hi => ?_
  rw [heq, ld_rp w _ _ _ _ (hw y)]
  refine lw_put hz (hw y) (fl_leaf (hfl y)) fun j hj => ?_
  replace hi := blk_grow hi [⟨enc y, true, true⟩]
  refine lw_ld hi (hw x) ?_
  refine lw_ld hj (hw y) ?_
  refine lw_sc hh (vcons (Vw_agg _ (hfl x)) (vcons (Vw_agg _ (hfl y)) vnil)) (hp x y (by rw [hl]; simp) (by rw [hq]; simp)) ?_
  rw [notB, cond_b, all2]
  cases hpx : pr x y
  ·simp only [Bool.not_false, if_true, Bool.false_eq_true, if_false]
   exact hk _ _ _
  ·simp only [Bool.not_true, Bool.false_eq_true, if_false, if_true]
   rw [inc_nat _ _ (by omega)]
   have ih := eqfunc_loop enc pr k hk z hz hw h0 hfl hh L hL l q hp hlq hlen s t (pl ++ [x]) (pq ++ [y]) m ((H ++ [⟨enc x, true, true⟩]) ++ [⟨enc y, true, true⟩]) (by rw [hl]; simp) (by rw [hq]; simp) (by simp [hpp]) (by simpa using hm)
   rw [List.length_append, List.length_singleton] at ih
   exact ih
theorem ends_loop {α : Type} {tb g w : Nat} (enc : α → List AV) (pr : α → α → Bool) (k : AV → Heap → Option β) (hw : ∀ x, (enc x).length = w) (h0 : 0 < w) (hfl : ∀ x, (enc x).all isFl = true) (hh : plainF g = false) (L : Nat → AV → AV → AV → Heap → Option β)
  (hL : ∀ m a b i H, L (m + 1) a b i H = pLen b fun t13 => pBin .lss i t13 fun t14 => pCond t14 (pLen a fun t19 => pLen b fun t21 => pBin .sub t19 t21 fun t22 => pBin .add t22 i fun t24 => pIadr w a t24 fun t25 => pLoad true w t25 H fun t26 => pIadr w b i fun t29 => pLoad true w t29 H fun t30 => (PR n β).call tb (.fn g [] []) [t26, t30] H fun t31 H => pUn .not t31 fun t32 => pCond t32 (k (.sc (.bool false)) H) (pBin .add i (.sc (.int .i64 1)) fun t16 => L m a b t16 H)) (k (.sc (.bool true)) H))
  (l q : List α) (hp : ∀ x y, x ∈ l → y ∈ q → tree E0 n tb g [.agg (enc x), .agg (enc y)] = some (.sc (.bool (pr x y)))) (hlq : q.length ≤ l.length) (hlen : l.length ≤ 1048576) (H : Heap) : ∀ (t s pq pl : List α) (m : Nat), l = pl ++ s → q = pq ++ t → pl.length = l.length - q.length + pq.length → t.length < m →
   L m (rowsC enc l) (rowsC enc q) (.sc (.int .i64 pq.length)) H = k (.sc (.bool (all2 pr s t))) H
 | [], s, pq, pl, m + 1, hl, hq, hpp, hm => by
  rw [List.append_nil] at hq
  subst hq
  have e : all2 pr s [] = true := by cases s <;> rfl
  rw [hL, len_ro, lss_nat, cond_b, e]
  simp
 | y :: t, [], pq, pl, m + 1, hl, hq, hpp, hm => by
  have h1 := congrArg List.length hl
  have h2 := congrArg List.length hq
  simp only [List.length_append, List.length_cons, List.length_nil] at h1 h2
  omega
 | y :: t, x :: s, pq, pl, m + 1, hl, hq, hpp, hm => by
  have hlt : pq.length < q.length := by rw [hq]; simp
  rw [hL, len_ro, lss_nat, cond_b, if_pos (by simpa using hlt)]
  have hel := fun k => el_ro (β := β) hw h0 pl x s k
  rw [← hl] at hel
  have heq := fun k => el_ro (β := β) hw h0 pq y t k
  rw [← hq] at heq
  have hi : ((l.length : Int) - (q.length : Int)) = ((l.length - q.length : Nat) : Int) := by omega
  have ha : (((l.length - q.length : Nat) : Int) + (pq.length : Int)) = (pl.length : Int) := by omega
  rw [len_ro, len_ro, sub64 _ _ _ (by omega) (by omega), hi, add64, ha, wrap64 _ (by omega) (by omega)]
  rw [hel, ld_rp w _ _ _ _ (hw x), heq, ld_rp w _ _ _ _ (hw y)]
  refine lw_sc hh (vcons (Vw_agg _ (hfl x)) (vcons (Vw_agg _ (hfl y)) vnil)) (hp x y (by rw [hl]; simp) (by rw [hq]; simp)) ?_
  rw [notB, cond_b, all2]
  cases hpx : pr x y
  ·simp only [Bool.not_false, if_true, Bool.false_eq_true, if_false]
  ·simp only [Bool.not_true, Bool.false_eq_true, if_false, if_true]
   rw [inc_nat _ _ (by omega)]
   have ih := ends_loop enc pr k hw h0 hfl hh L hL l q hp hlq hlen H t s (pq ++ [y]) (pl ++ [x]) m (by rw [hl]; simp) (by rw [hq]; simp) (by simp [hpp]; omega) (by simpa using hm)
   rw [List.length_append, List.length_singleton] at ih
   exact ih
theorem nT {b : Bool} (h : b = false) : (!b) = true := by rw [h]; rfl
theorem nF {b : Bool} (h : b = true) : (!b) = false := by rw [h]; rfl
end
end Go.Proofs.YtejjggnchdldoaaGreatDoor.Abs
set_option linter.unusedVariables false
set_option linter.unusedSimpArgs false
set_option maxRecDepth 100000
namespace Go.Proofs.YtejjggnchdldoaaGreatDoor.Abs
open Go
def vIn (x lo hi : Int) : Bool := decide (lo ≤ x) && decide (x ≤ hi)
theorem l1InF (n : Nat) (ty : Nat) (x : Int) (lo : Int) (hi : Int) : tree E0 (n + 1) ty 109 [.sc (.int .i64 x), .sc (.int .i64 lo), .sc (.int .i64 hi)] = some (.sc (.bool (vIn x lo hi))) := by
 rw [tree_def, f109_eq, f109]
 try simp only [PR_box, PR_new, PR_fadr, PR_load, PR_store, PR_bin, PR_binB, PR_binA, PR_un, PR_cond, PR_guard, PR_pick, PR_len, PR_lenS, PR_iadr, PR_idx, PR_slice, PR_sliceS, PR_newSl, PR_fill, PR_make, PR_app, PR_cvI, PR_cvBS]
 refine w_bin (v := .sc (.bool (decide (x ≥ lo)))) (fun k => rfl) ?_
 apply w_merge ((decide (x ≥ lo)) && (decide (x ≤ hi)))
 ·intro b1 q1
  refine w_split ((decide (x ≥ lo))) (fun h1 => ?_) (fun h1 => ?_)
  ·refine w_gT h1 ?_
   refine w_gT h1 ?_
   refine w_gT h1 ?_
   refine w_bin (v := .sc (.bool (decide (x ≤ hi)))) (fun k => rfl) ?_
   refine w_pTb h1 (mAT q1 h1) ?_
   exact rfl
  ·refine w_gF h1 ?_
   refine w_gF h1 ?_
   refine w_gF h1 ?_
   refine w_pFb h1 (mAF q1 h1) ?_
   exact rfl
 intro b1 q1
 exact w_endB (by first | (simp_all [vIn]; done) | (rw [Bool.eq_iff_iff]; simp [vIn] at *; omega))
theorem withinF (n : Nat) (ty : Nat) (x : Int) (lo : Int) (hi : Int) : tree E0 (n + 1) ty 114 [.sc (.int .i64 x), .sc (.int .i64 lo), .sc (.int .i64 hi)] = some (.sc (.bool (vIn x lo hi))) := by
 rw [tree_def, f114_eq, f114]
 try simp only [PR_box, PR_new, PR_fadr, PR_load, PR_store, PR_bin, PR_binB, PR_binA, PR_un, PR_cond, PR_guard, PR_pick, PR_len, PR_lenS, PR_iadr, PR_idx, PR_slice, PR_sliceS, PR_newSl, PR_fill, PR_make, PR_app, PR_cvI, PR_cvBS]
 refine w_bin (v := .sc (.bool (decide (x ≥ lo)))) (fun k => rfl) ?_
 apply w_merge ((decide (x ≥ lo)) && (decide (x ≤ hi)))
 ·intro b1 q1
  refine w_split ((decide (x ≥ lo))) (fun h1 => ?_) (fun h1 => ?_)
  ·refine w_gT h1 ?_
   refine w_gT h1 ?_
   refine w_gT h1 ?_
   refine w_bin (v := .sc (.bool (decide (x ≤ hi)))) (fun k => rfl) ?_
   refine w_pTb h1 (mAT q1 h1) ?_
   exact rfl
  ·refine w_gF h1 ?_
   refine w_gF h1 ?_
   refine w_gF h1 ?_
   refine w_pFb h1 (mAF q1 h1) ?_
   exact rfl
 intro b1 q1
 exact w_endB (by first | (simp_all [vIn]; done) | (rw [Bool.eq_iff_iff]; simp [vIn] at *; omega))
theorem l1SameF (n : Nat) (ty : Nat) (s t : ByteArray) : tree E0 (n + 1) ty 161 [bytesC s, bytesC t] = some (.sc (.bool (s.toList == t.toList))) := by
 rw [tree_def, f161_eq, f161]
 have e : ∀ u : ByteArray, content [] 1 (.ro u.size (bytesAV u)) = some (bytesAV u) := by
  intro u
  simp [content, bytesAV_len]
 have eb : ∀ u : ByteArray, (bytesAV u).mapM byteOf = some u.data.toList := fun u => byteOf_bytes _
 simp only [PR_cvBS, PR_bin, pCvBS, e, eb, Option.bind_some, pBin, binS]
 simp
theorem bytesEqualF (n : Nat) (ty : Nat) (s t : ByteArray) : tree E0 (n + 1) ty 164 [bytesC s, bytesC t] = some (.sc (.bool (s.toList == t.toList))) := by
 rw [tree_def, f164_eq, f164]
 have e : ∀ u : ByteArray, content [] 1 (.ro u.size (bytesAV u)) = some (bytesAV u) := by
  intro u
  simp [content, bytesAV_len]
 have eb : ∀ u : ByteArray, (bytesAV u).mapM byteOf = some u.data.toList := fun u => byteOf_bytes _
 simp only [PR_cvBS, PR_bin, pCvBS, e, eb, Option.bind_some, pBin, binS]
 simp
end Go.Proofs.YtejjggnchdldoaaGreatDoor.Abs
set_option linter.unusedVariables false
set_option linter.unusedSimpArgs false
set_option maxRecDepth 100000
namespace Go.Proofs.YtejjggnchdldoaaGreatDoor.Abs
open Go
theorem and31 : ∀ X : Fin 256, bits .and .i64 ((X.val : Nat) : Int) 31 = ((X.val % 32 : Nat) : Int) := by decide +kernel
theorem and15 : ∀ X : Fin 256, bits .and .i64 ((X.val : Nat) : Int) 15 = ((X.val % 16 : Nat) : Int) := by decide +kernel
theorem and7' : ∀ X : Fin 256, bits .and .i64 ((X.val : Nat) : Int) 7 = ((X.val % 8 : Nat) : Int) := by decide +kernel
def runeAV (d : Nat × Nat) (i : Nat) : AV := if d.1 = 65533 ∧ d.2 = 1 then .tup [.sc (.int .i64 0), .sc (.int .i64 0), .sc (.bool false)] else .tup [.sc (.int .i64 d.1), .sc (.int .i64 ((i + d.2 : Nat) : Int)), .sc (.bool true)]
def failAV : AV := .tup [.sc (.int .i64 0), .sc (.int .i64 0), .sc (.bool false)]
theorem by_at (s : ByteArray) (i : Nat) (h : i < s.size) (H : Heap) (k : AV → Option AV) : (pIadr 1 (bytesC s) (.sc (.int .i64 i)) fun t => pLoad false 1 t H k) = k (.sc (.int .u8 (s.data.toList.getD i 0).toNat)) := by
 rw [iadr_ro 1 _ _ i _ h (by rw [bytesAV_len]; omega)]
 have hl : i < s.data.toList.length := by simpa using h
 have hd : (bytesAV s).drop (i * 1) = .sc (.int .u8 (s.data.toList.getD i 0).toNat) :: (bytesAV s).drop (i + 1) := by
  rw [Nat.mul_one, List.drop_eq_getElem_cons (by rw [bytesAV_len]; omega)]
  congr 1
  simp [bytesAV, List.getD_eq_getElem?_getD, h]
 rw [hd, ld1_rp]
section loop
variable (n : Nat) (k : AV → Heap → Option AV) (H : Heap) (s : ByteArray)
theorem rune_step (m at' N v i : Nat) (least : Int) (hi : i ≤ N) (hb : at' + i < s.size) (hN : N ≤ 3) (hv : v < 100000000) (hs : s.size ≤ 1048576) :
  f157_l0 (PR n AV) n k (m + 1) (bytesC s) (.sc (.int .i64 at')) (.sc (.int .i64 N)) (.sc (.int .i64 least)) (.sc (.int .i64 v)) (.sc (.int .i64 i)) H =
   if (s.data.toList.getD (at' + i) 0).toNat / 64 = 2 then f157_l0 (PR n AV) n k m (bytesC s) (.sc (.int .i64 at')) (.sc (.int .i64 N)) (.sc (.int .i64 least)) (.sc (.int .i64 ((v * 64 + (s.data.toList.getD (at' + i) 0).toNat % 64 : Nat) : Int))) (.sc (.int .i64 ((i + 1 : Nat) : Int))) H else k failAV H := by
 obtain ⟨y, hy⟩ : ∃ y, (s.data.toList.getD (at' + i) 0).toNat = y := ⟨_, rfl⟩
 have hylt : y < 256 := by rw [← hy]; exact (s.data.toList.getD (at' + i) 0).toNat_lt
 have hba := by_at s (at' + i) hb H
 rw [hy] at hba ⊢
 rw [f157_l0]
 simp only [PR_bin, PR_cond, PR_iadr, PR_load, PR_cvI, PR_guard, PR_pick]
 rw [leq64, cond_b, if_pos (by simp; omega), add64, ← Int.natCast_add, wrap64 _ (by omega) (by omega), hba]
 simp only [pCvI, asI, Option.bind_some]
 rw [wrap64 _ (by omega) (by omega), lss64]
 by_cases h1 : y < 128
 ·refine w_hF (by simp; omega) ?_
  refine w_hF (by simp; omega) ?_
  refine w_pT (by simp; omega) ?_
  rw [if_neg (by omega)]
  rfl
 ·refine w_hT (by simp; omega) ?_
  refine w_hT (by simp; omega) ?_
  rw [gtr64]
  refine w_pF (by simp; omega) ?_
  by_cases h2 : y ≤ 191
  ·rw [cond_b, if_neg (by simp; omega), if_pos (by omega), mul64, show (v : Int) * 64 = ((v * 64 : Nat) : Int) by omega, wrap64 _ (by omega) (by omega), add64, ← Int.natCast_add, wrap64 _ (by omega) (by omega), sub64 _ _ _ (by omega) (by omega), inc_nat _ _ (by omega)]
   congr 3
   omega
  ·rw [cond_b, if_pos (by simp; omega), if_neg (by omega)]
   rfl
theorem rune_end (n' : Nat) (hnn : n = n' + 1) (m at' N v least : Nat) (hN : N ≤ 3) (hv : v < 100000000) (ha : at' ≤ 1048576) :
  f157_l0 (PR n AV) n k (m + 1) (bytesC s) (.sc (.int .i64 at')) (.sc (.int .i64 N)) (.sc (.int .i64 least)) (.sc (.int .i64 v)) (.sc (.int .i64 ((N + 1 : Nat) : Int))) H =
   if v ≥ least ∧ (v < 55296 ∨ (57344 ≤ v ∧ v ≤ 1114111)) then k (.tup [.sc (.int .i64 v), .sc (.int .i64 ((at' + (N + 1) : Nat) : Int)), .sc (.bool true)]) H else k failAV H := by
 subst hnn
 rw [f157_l0]
 simp only [PR_bin, PR_cond, PR_iadr, PR_load, PR_cvI, PR_guard, PR_pick]
 rw [leq64, cond_b, if_neg (by simp; omega), lss64]
 by_cases h1 : v < least
 ·have e : decide ((v : Int) < (least : Int)) = true := by simp; omega
  refine w_hF e ?_
  refine w_hF e ?_
  refine w_pT e ?_
  refine w_hF rfl ?_
  refine w_hF rfl ?_
  refine w_pT rfl ?_
  refine w_cT rfl ?_
  rw [if_neg (by omega)]
  rfl
 ·have e : decide ((v : Int) < (least : Int)) = false := by simp; omega
  refine w_hT e ?_
  refine w_hT e ?_
  refine w_bin (v := .sc (.bool (decide ((v : Int) > 1114111)))) (fun k => rfl) ?_
  refine w_pF e ?_
  by_cases h2 : v > 1114111
  ·have e2 : decide ((v : Int) > 1114111) = true := by simp; omega
   refine w_hF e2 ?_
   refine w_hF e2 ?_
   refine w_pT e2 ?_
   refine w_cT rfl ?_
   rw [if_neg (by omega)]
   rfl
  ·have e2 : decide ((v : Int) > 1114111) = false := by simp; omega
   refine w_hT e2 ?_
   refine w_hT e2 ?_
   refine lw_sc rfl (vcons (Vw_sc _ _) (vcons (Vw_sc _ _) (vcons (Vw_sc _ _) vnil))) (l1InF n' _ v 55296 57343) ?_
   refine w_pF e2 ?_
   by_cases h3 : 55296 ≤ v ∧ v ≤ 57343
   ·refine w_cT (by simp [vIn]; omega) ?_
    rw [if_neg (by omega)]
    rfl
   ·refine w_cF (by simp [vIn]; omega) ?_
    have e5 : ((at' : Int) + 1 + (N : Int)) = ((at' + (N + 1) : Nat) : Int) := by omega
    rw [if_pos (by omega), add64, wrap64 _ (by omega) (by omega), add64, wrap64 _ (by omega) (by omega), e5]
    rfl
end loop
theorem own_tup3 (H : Heap) (a b c : Value) : ownTree ti0 E0.tp 157 H (.tup [.sc a, .sc b, .sc c]) = some (.tup [.sc a, .sc b, .sc c]) := rfl
set_option maxHeartbeats 1600000 in
theorem runeAtF (n : Nat) (hn : 1048576 < n) (s : ByteArray) (i : Nat) (hs : s.size ≤ 1048576) (hi : i < s.size) : tree E0 (n + 2) 157 157 [bytesC s, .sc (.int .i64 i)] = some (runeAV (Lib.decodeL (s.data.toList.drop i)) i) := by
 have hg : ∀ j, (s.data.toList.drop i).getD j 0 = s.data.toList.getD (i + j) 0 := fun j => by simp [List.getD_eq_getElem?_getD, List.getElem?_drop]
 have hL : (s.data.toList.drop i).length = s.size - i := by simp
 have hg0 : (s.data.toList.drop i).getD 0 0 = s.data.toList.getD i 0 := hg 0
 rw [Lib.decodeL_N, hL, hg0, hg 1, hg 2, hg 3]
 obtain ⟨x, hx⟩ : ∃ x, (s.data.toList.getD i 0).toNat = x := ⟨_, rfl⟩
 have hxl : x < 256 := by rw [← hx]; exact (s.data.toList.getD i 0).toNat_lt
 obtain ⟨y1, hy1⟩ : ∃ x, (s.data.toList.getD (i + 1) 0).toNat = x := ⟨_, rfl⟩
 obtain ⟨y2, hy2⟩ : ∃ x, (s.data.toList.getD (i + 2) 0).toNat = x := ⟨_, rfl⟩
 obtain ⟨y3, hy3⟩ : ∃ x, (s.data.toList.getD (i + 3) 0).toNat = x := ⟨_, rfl⟩
 have b1 : y1 < 256 := by rw [← hy1]; exact (s.data.toList.getD (i + 1) 0).toNat_lt
 have b2 : y2 < 256 := by rw [← hy2]; exact (s.data.toList.getD (i + 2) 0).toNat_lt
 have b3 : y3 < 256 := by rw [← hy3]; exact (s.data.toList.getD (i + 3) 0).toNat_lt
 have hba := by_at s i hi []
 rw [hx] at hba
 rw [hx, hy1, hy2, hy3]
 have fails : Lib.decodeN (s.size - i) x y1 y2 y3 = (65533, 1) → some failAV = some (runeAV (Lib.decodeN (s.size - i) x y1 y2 y3) i) := fun h => by rw [h]; rfl
 have goes : ∀ v w, Lib.decodeN (s.size - i) x y1 y2 y3 = (v, w) → (w = 1 → v < 128) → some (.tup [.sc (.int .i64 v), .sc (.int .i64 ((i + w : Nat) : Int)), .sc (.bool true)]) = some (runeAV (Lib.decodeN (s.size - i) x y1 y2 y3) i) := fun v w h hw => by
  rw [h, runeAV, if_neg (by intro h; simp only at h; omega)]
 rw [tree_def, f157_eq, f157]
 simp only [PR_bin, PR_cond, PR_iadr, PR_load, PR_cvI, PR_guard, PR_pick, PR_len]
 have e0 : decide ((i : Int) < 0) = false := by simp
 rw [lss64]
 refine w_hT e0 ?_
 refine w_hT e0 ?_
 refine w_hT e0 ?_
 refine w_len ?_
 refine w_hT e0 ?_
 refine w_bin (v := .sc (.bool (decide ((i : Int) ≥ (s.size : Int))))) (fun k => rfl) ?_
 refine w_pF e0 ?_
 refine w_cF (by simp; omega) ?_
 rw [hba]
 simp only [pCvI, asI, Option.bind_some]
 rw [wrap64 _ (by omega) (by omega), lss64]
 by_cases c1 : x < 128
 ·refine w_cT (by simp; omega) ?_
  rw [inc_nat _ _ (by omega)]
  exact (own_tup3 _ _ _ _).trans (goes x 1 (by rw [Lib.decodeN, if_pos c1]) (fun _ => c1))
 ·refine w_cF (by simp; omega) ?_
  obtain ⟨q, rfl⟩ : ∃ q, n = q + 4 := ⟨n - 4, by omega⟩
  apply w_merge (decide ((x : Int) ≥ 192) && decide ((x : Int) < 224))
  ·intro b hb
   refine w_bin (v := .sc (.bool (decide ((x : Int) ≥ 192)))) (fun k => rfl) ?_
   refine w_split (decide ((x : Int) ≥ 192)) (fun h => ?_) (fun h => ?_)
   ·refine w_gT h ?_
    refine w_gT h ?_
    refine w_bin (v := .sc (.bool (decide ((x : Int) < 224)))) (fun k => rfl) ?_
    refine w_pTb h (mAT hb h) ?_
    exact rfl
   ·refine w_gF h ?_
    refine w_gF h ?_
    refine w_pFb h (mAF hb h) ?_
    exact rfl
  intro b0 hb0
  by_cases d0 : 192 ≤ x ∧ x < 224
  ·refine w_cT (by rw [hb0]; simp; omega) ?_
   refine w_bin (v := .sc (.int .i64 ((x % 32 : Nat) : Int))) (fun k => by show k (.sc (.int .i64 (bits .and .i64 (x : Int) 31))) = _; rw [and31 ⟨x, hxl⟩]) ?_
   refine w_len ?_
   refine w_bin (v := .sc (.int .i64 ((s.size : Int) - 1))) (fun k => sub64 _ _ _ (by omega) (by omega)) ?_
   refine w_bin (v := .sc (.int .i64 ((s.size : Int) - 1 - 1))) (fun k => sub64 _ _ _ (by omega) (by omega)) ?_
   refine w_bin (v := .sc (.bool (decide ((i : Int) > (s.size : Int) - 1 - 1)))) (fun k => rfl) ?_
   by_cases c3 : i + 1 < s.size
   ·refine w_cF (by simp; omega) ?_
    have r1 := rune_step (q + 4 + 1) (fun x H => ownTree ti0 E0.tp 157 H x) [] s (q + 4) i 1 (x % 32) 1 128 (by omega) (by omega) (by omega) (by omega) hs
    rw [hy1] at r1
    refine r1.trans ?_
    by_cases k1 : y1 / 64 = 2
    rotate_left
    ·rw [if_neg k1]
     exact (own_tup3 _ _ _ _).trans (fails (by unfold Lib.decodeN; rw [if_neg c1, if_neg (by omega), if_neg (by omega), if_neg (by omega)]))
    rw [if_pos k1]
    refine (rune_end (q + 4 + 1) (fun x H => ownTree ti0 E0.tp 157 H x) [] s (q + 4) rfl (q + 3) i 1 ((x % 32) * 64 + y1 % 64) 128 (by omega) (by omega) (by omega)).trans ?_
    have hv : (x % 32) * 64 + y1 % 64 = x % 32 * 64 + y1 % 64 := by omega
    rw [hv]
    split
    ·exact (own_tup3 _ _ _ _).trans (goes _ 2 (by unfold Lib.decodeN; rw [if_neg c1, if_pos (by omega), if_pos (by omega)]) (by omega))
    ·exact (own_tup3 _ _ _ _).trans (fails (by unfold Lib.decodeN; rw [if_neg c1, if_pos (by omega), if_neg (by omega)]))
   ·refine w_cT (by simp; omega) ?_
    exact (own_tup3 _ _ _ _).trans (fails (by unfold Lib.decodeN; rw [if_neg c1, if_neg (by omega), if_neg (by omega), if_neg (by omega)]))
  ·refine w_cF (by rw [hb0]; simp; omega) ?_
   apply w_merge (decide ((x : Int) ≥ 224) && decide ((x : Int) < 240))
   ·intro b hb
    refine w_bin (v := .sc (.bool (decide ((x : Int) ≥ 224)))) (fun k => rfl) ?_
    refine w_split (decide ((x : Int) ≥ 224)) (fun h => ?_) (fun h => ?_)
    ·refine w_gT h ?_
     refine w_gT h ?_
     refine w_bin (v := .sc (.bool (decide ((x : Int) < 240)))) (fun k => rfl) ?_
     refine w_pTb h (mAT hb h) ?_
     exact rfl
    ·refine w_gF h ?_
     refine w_gF h ?_
     refine w_pFb h (mAF hb h) ?_
     exact rfl
   intro b1 hb1
   by_cases d1 : 224 ≤ x ∧ x < 240
   ·refine w_cT (by rw [hb1]; simp; omega) ?_
    refine w_bin (v := .sc (.int .i64 ((x % 16 : Nat) : Int))) (fun k => by show k (.sc (.int .i64 (bits .and .i64 (x : Int) 15))) = _; rw [and15 ⟨x, hxl⟩]) ?_
    refine w_len ?_
    refine w_bin (v := .sc (.int .i64 ((s.size : Int) - 1))) (fun k => sub64 _ _ _ (by omega) (by omega)) ?_
    refine w_bin (v := .sc (.int .i64 ((s.size : Int) - 1 - 2))) (fun k => sub64 _ _ _ (by omega) (by omega)) ?_
    refine w_bin (v := .sc (.bool (decide ((i : Int) > (s.size : Int) - 1 - 2)))) (fun k => rfl) ?_
    by_cases c3 : i + 2 < s.size
    ·refine w_cF (by simp; omega) ?_
     have r1 := rune_step (q + 4 + 1) (fun x H => ownTree ti0 E0.tp 157 H x) [] s (q + 4) i 2 (x % 16) 1 2048 (by omega) (by omega) (by omega) (by omega) hs
     rw [hy1] at r1
     refine r1.trans ?_
     by_cases k1 : y1 / 64 = 2
     rotate_left
     ·rw [if_neg k1]
      exact (own_tup3 _ _ _ _).trans (fails (by unfold Lib.decodeN; rw [if_neg c1, if_neg (by omega), if_neg (by omega), if_neg (by omega)]))
     rw [if_pos k1]
     have r2 := rune_step (q + 4 + 1) (fun x H => ownTree ti0 E0.tp 157 H x) [] s (q + 3) i 2 ((x % 16) * 64 + y1 % 64) 2 2048 (by omega) (by omega) (by omega) (by omega) hs
     rw [hy2] at r2
     refine r2.trans ?_
     by_cases k2 : y2 / 64 = 2
     rotate_left
     ·rw [if_neg k2]
      exact (own_tup3 _ _ _ _).trans (fails (by unfold Lib.decodeN; rw [if_neg c1, if_neg (by omega), if_neg (by omega), if_neg (by omega)]))
     rw [if_pos k2]
     refine (rune_end (q + 4 + 1) (fun x H => ownTree ti0 E0.tp 157 H x) [] s (q + 4) rfl (q + 2) i 2 (((x % 16) * 64 + y1 % 64) * 64 + y2 % 64) 2048 (by omega) (by omega) (by omega)).trans ?_
     have hv : ((x % 16) * 64 + y1 % 64) * 64 + y2 % 64 = x % 16 * 4096 + y1 % 64 * 64 + y2 % 64 := by omega
     rw [hv]
     split
     ·exact (own_tup3 _ _ _ _).trans (goes _ 3 (by unfold Lib.decodeN; rw [if_neg c1, if_neg (by omega), if_pos (by omega), if_pos (by omega)]) (by omega))
     ·exact (own_tup3 _ _ _ _).trans (fails (by unfold Lib.decodeN; rw [if_neg c1, if_neg (by omega), if_pos (by omega), if_neg (by omega)]))
    ·refine w_cT (by simp; omega) ?_
     exact (own_tup3 _ _ _ _).trans (fails (by unfold Lib.decodeN; rw [if_neg c1, if_neg (by omega), if_neg (by omega), if_neg (by omega)]))
   ·refine w_cF (by rw [hb1]; simp; omega) ?_
    apply w_merge (decide ((x : Int) ≥ 240) && decide ((x : Int) < 248))
    ·intro b hb
     refine w_bin (v := .sc (.bool (decide ((x : Int) ≥ 240)))) (fun k => rfl) ?_
     refine w_split (decide ((x : Int) ≥ 240)) (fun h => ?_) (fun h => ?_)
     ·refine w_gT h ?_
      refine w_gT h ?_
      refine w_bin (v := .sc (.bool (decide ((x : Int) < 248)))) (fun k => rfl) ?_
      refine w_pTb h (mAT hb h) ?_
      exact rfl
     ·refine w_gF h ?_
      refine w_gF h ?_
      refine w_pFb h (mAF hb h) ?_
      exact rfl
    intro b2 hb2
    by_cases d2 : 240 ≤ x ∧ x < 248
    ·refine w_cT (by rw [hb2]; simp; omega) ?_
     refine w_bin (v := .sc (.int .i64 ((x % 8 : Nat) : Int))) (fun k => by show k (.sc (.int .i64 (bits .and .i64 (x : Int) 7))) = _; rw [and7' ⟨x, hxl⟩]) ?_
     refine w_len ?_
     refine w_bin (v := .sc (.int .i64 ((s.size : Int) - 1))) (fun k => sub64 _ _ _ (by omega) (by omega)) ?_
     refine w_bin (v := .sc (.int .i64 ((s.size : Int) - 1 - 3))) (fun k => sub64 _ _ _ (by omega) (by omega)) ?_
     refine w_bin (v := .sc (.bool (decide ((i : Int) > (s.size : Int) - 1 - 3)))) (fun k => rfl) ?_
     by_cases c3 : i + 3 < s.size
     ·refine w_cF (by simp; omega) ?_
      have r1 := rune_step (q + 4 + 1) (fun x H => ownTree ti0 E0.tp 157 H x) [] s (q + 4) i 3 (x % 8) 1 65536 (by omega) (by omega) (by omega) (by omega) hs
      rw [hy1] at r1
      refine r1.trans ?_
      by_cases k1 : y1 / 64 = 2
      rotate_left
      ·rw [if_neg k1]
       exact (own_tup3 _ _ _ _).trans (fails (by unfold Lib.decodeN; rw [if_neg c1, if_neg (by omega), if_neg (by omega), if_neg (by omega)]))
      rw [if_pos k1]
      have r2 := rune_step (q + 4 + 1) (fun x H => ownTree ti0 E0.tp 157 H x) [] s (q + 3) i 3 ((x % 8) * 64 + y1 % 64) 2 65536 (by omega) (by omega) (by omega) (by omega) hs
      rw [hy2] at r2
      refine r2.trans ?_
      by_cases k2 : y2 / 64 = 2
      rotate_left
      ·rw [if_neg k2]
       exact (own_tup3 _ _ _ _).trans (fails (by unfold Lib.decodeN; rw [if_neg c1, if_neg (by omega), if_neg (by omega), if_neg (by omega)]))
      rw [if_pos k2]
      have r3 := rune_step (q + 4 + 1) (fun x H => ownTree ti0 E0.tp 157 H x) [] s (q + 2) i 3 (((x % 8) * 64 + y1 % 64) * 64 + y2 % 64) 3 65536 (by omega) (by omega) (by omega) (by omega) hs
      rw [hy3] at r3
      refine r3.trans ?_
      by_cases k3 : y3 / 64 = 2
      rotate_left
      ·rw [if_neg k3]
       exact (own_tup3 _ _ _ _).trans (fails (by unfold Lib.decodeN; rw [if_neg c1, if_neg (by omega), if_neg (by omega), if_neg (by omega)]))
      rw [if_pos k3]
      refine (rune_end (q + 4 + 1) (fun x H => ownTree ti0 E0.tp 157 H x) [] s (q + 4) rfl (q + 1) i 3 ((((x % 8) * 64 + y1 % 64) * 64 + y2 % 64) * 64 + y3 % 64) 65536 (by omega) (by omega) (by omega)).trans ?_
      have hv : (((x % 8) * 64 + y1 % 64) * 64 + y2 % 64) * 64 + y3 % 64 = x % 8 * 262144 + y1 % 64 * 4096 + y2 % 64 * 64 + y3 % 64 := by omega
      rw [hv]
      split
      ·exact (own_tup3 _ _ _ _).trans (goes _ 4 (by unfold Lib.decodeN; rw [if_neg c1, if_neg (by omega), if_neg (by omega), if_pos (by omega), if_pos (by omega)]) (by omega))
      ·exact (own_tup3 _ _ _ _).trans (fails (by unfold Lib.decodeN; rw [if_neg c1, if_neg (by omega), if_neg (by omega), if_pos (by omega), if_neg (by omega)]))
     ·refine w_cT (by simp; omega) ?_
      exact (own_tup3 _ _ _ _).trans (fails (by unfold Lib.decodeN; rw [if_neg c1, if_neg (by omega), if_neg (by omega), if_neg (by omega)]))
    ·refine w_cF (by rw [hb2]; simp; omega) ?_
     exact (own_tup3 _ _ _ _).trans (fails (by unfold Lib.decodeN; rw [if_neg c1, if_neg (by omega), if_neg (by omega), if_neg (by omega)]))
theorem inst_tup3 (N ty : Nat) (a b c : Value) : instT ti0 E0.tp N ty (.tup [.sc a, .sc b, .sc c]) = (.tup [.sc a, .sc b, .sc c], []) := rfl
theorem Vw_bytes (s : ByteArray) : Vw [⟨bytesAV s, true, false⟩] (.sl 0 0 s.size 1) (bytesC s) := fun X => by
 have e2 : rdCells ([⟨bytesAV s, true, false⟩] ++ X) 0 0 (s.size * 1) = some (bytesAV s) := by
  have hl := bytesAV_len s
  show (if (0 + s.size * 1 ≤ (bytesAV s).length) then some (((bytesAV s).drop 0).take (s.size * 1)) else none) = _
  rw [if_pos (by omega), List.drop_zero, Nat.mul_one, ← hl, List.take_length]
 rw [viewV_sl, e2, Option.bind_some]
 have e3 : (bytesAV s).mapM (viewV ([⟨bytesAV s, true, false⟩] ++ X) 7) = some (bytesAV s) := by
  rw [bytesAV_eq]
  exact mapM_sc _
 rw [e3]
 rfl
theorem w_extr {vs : List AV} {i : Nat} {x : AV} {K : AV → Option AV} {r : Option AV} (hx : vs[i]? = some x) (h : K x = r) : pExtr (.tup vs) i (fun t => K t) = r := by
 show (vs[i]?).bind _ = r
 rw [hx]
 exact h
theorem count_loop (n : Nat) (hn : 1048576 < n) (k : AV → Heap → Option AV) (s : ByteArray) (hs : s.size ≤ 60) : ∀ (b m pos c : Nat), s.size ≤ pos + b → pos ≤ s.size → c ≤ pos → b < m →
  ∃ r : Int, f142_l0 (PR (n + 2) AV) (n + 2) k m (.sl 0 0 s.size 1) (.sc (.int .i64 c)) (.sc (.int .i64 pos)) [⟨bytesAV s, true, false⟩] = k (.sc (.int .i64 r)) [⟨bytesAV s, true, false⟩] ∧ (textGo b (s.data.toList.drop pos) = true → 0 ≤ r) ∧ (textGo b (s.data.toList.drop pos) = false → r = -1)
 | b, m + 1, pos, c, hb, hp, hc, hm => by
  rw [f142_l0]
  simp only [PR_len, PR_bin, PR_cond, PR_extr, PR_un, PR_guard, PR_pick]
  have hlen : ∀ k : AV → Option AV, pLen (.sl 0 0 s.size 1) k = k (.sc (.int .i64 s.size)) := fun _ => rfl
  rw [hlen, lss_nat, cond_b]
  by_cases hlt : pos < s.size
  ·rw [if_pos (by simpa using hlt)]
   obtain ⟨b, rfl⟩ : ∃ b', b = b' + 1 := ⟨b - 1, by omega⟩
   have hne : s.data.toList.drop pos ≠ [] := by
    intro h
    have := congrArg List.length h
    simp at this
    omega
   have hw := Lib.decodeL_width (s.data.toList.drop pos)
   have hle := Lib.decodeL_le (s.data.toList.drop pos) hne
   have hll : (s.data.toList.drop pos).length = s.size - pos := by simp
   rw [hll] at hle
   rw [textGo, if_neg hne]
   generalize hd : Lib.decodeL (s.data.toList.drop pos) = d at hw hle ⊢
   have ht := runeAtF n hn s pos (by omega) hlt
   rw [hd] at ht
   rw [PR_call (vs := [bytesC s, .sc (.int .i64 pos)]) rfl (vcons (Vw_bytes s) (vcons (Vw_sc _ _) vnil)) ht]
   by_cases hf : d.1 = 65533 ∧ d.2 = 1
   ·rw [runeAV, if_pos hf, inst_tup3, List.append_nil, if_pos hf]
    refine ⟨-1, ?_, (fun h => by cases h), (fun _ => rfl)⟩
    refine w_extr rfl ?_
    refine w_extr rfl ?_
    refine w_extr rfl ?_
    refine w_not ?_
    refine w_hF rfl ?_
    refine w_hF rfl ?_
    refine w_pT rfl ?_
    refine w_cT rfl ?_
    rfl
   ·rw [runeAV, if_neg hf, inst_tup3, List.append_nil, if_neg hf]
    by_cases hz : d.1 = 0
    ·rw [if_pos hz]
     refine ⟨-1, ?_, (fun h => by cases h), (fun _ => rfl)⟩
     refine w_extr rfl ?_
     refine w_extr rfl ?_
     refine w_extr rfl ?_
     refine w_not ?_
     refine w_hT rfl ?_
     refine w_hT rfl ?_
     refine w_bin (v := .sc (.bool ((d.1 : Int) == 0))) (fun k => rfl) ?_
     refine w_pF rfl ?_
     refine w_cT (by simp [hz]) ?_
     rfl
    ·rw [if_neg hz, List.drop_drop]
     obtain ⟨r, h1, h2, h3⟩ := count_loop n hn k s hs b m (pos + d.2) (c + 1) (by omega) (by omega) (by omega) (by omega)
     refine ⟨r, ?_, h2, h3⟩
     refine w_extr rfl ?_
     refine w_extr rfl ?_
     refine w_extr rfl ?_
     refine w_not ?_
     refine w_hT rfl ?_
     refine w_hT rfl ?_
     refine w_bin (v := .sc (.bool ((d.1 : Int) == 0))) (fun k => rfl) ?_
     refine w_pF rfl ?_
     refine w_cF (by simp; omega) ?_
     rw [inc_nat _ _ (by omega)]
     exact h1
  ·rw [if_neg (by simpa using hlt)]
   have hnil : s.data.toList.drop pos = [] := by
    apply List.drop_of_length_le
    simp
    omega
   refine ⟨c, rfl, fun _ => by omega, fun h => ?_⟩
   rw [hnil] at h
   cases b <;> simp [textGo] at h
theorem countF (n : Nat) (hn : 1048576 < n) (ty : Nat) (s : ByteArray) : ∃ r : Int, tree E0 (n + 3) ty 142 [.sc (.string s)] = some (.sc (.int .i64 r)) ∧ (vTextOk s = true → 0 ≤ r) ∧ (vTextOk s = false → r = -1) := by
 rw [tree_def, f142_eq, f142]
 simp only [PR_lenS, PR_bin, PR_cond, PR_cvSB]
 unfold vTextOk
 by_cases h : s.size ≤ 60
 ·obtain ⟨r, h1, h2, h3⟩ := count_loop n hn (fun x H => ownTree ti0 E0.tp ty H x) s h s.size (n + 2) 0 0 (by omega) (by omega) (by omega) (by omega)
  refine ⟨r, ?_, ?_, ?_⟩
  ·refine w_lenS ?_
   refine w_bin (v := .sc (.bool (decide ((s.size : Int) > 60)))) (fun k => rfl) ?_
   refine w_cF (by simp; omega) ?_
   simp only [pCvSB, asS, Option.bind_some]
   rw [if_pos (by omega)]
   exact h1
  ·intro hv
   refine h2 ?_
   simpa [h] using hv
  ·intro hv
   refine h3 ?_
   simpa [h] using hv
 ·refine ⟨-1, ?_, (fun hv => by simp [h] at hv), (fun _ => rfl)⟩
  refine w_lenS ?_
  refine w_bin (v := .sc (.bool (decide ((s.size : Int) > 60)))) (fun k => rfl) ?_
  refine w_cT (by simp; omega) ?_
  rfl
theorem specTextF (n : Nat) (hn : 1048576 < n) (ty : Nat) (s : ByteArray) : tree E0 (n + 4) ty 108 [.sc (.string s)] = some (.sc (.bool (vTextOk s))) := by
 rw [tree_def, f108_eq, f108]
 simp only [PR_bin]
 obtain ⟨r, h1, h2, h3⟩ := countF n hn 3 s
 refine lw_sc rfl (vcons (Vw_sc _ _) vnil) h1 ?_
 refine w_bin (v := .sc (.bool (decide (r ≥ 0)))) (fun k => rfl) ?_
 refine w_endB ?_
 cases hv : vTextOk s
 ·rw [h3 hv]
  rfl
 ·simpa using h2 hv
theorem lw_ext {β : Type} {n : Nat} {H : Heap} {r : Option β} {ty f : Nat} {g : Nat → List AV → Option AV} {args vs : List AV} {v : Value} {K : AV → Heap → Option β} (hg : E0.ext f = some g) (hv : args.mapM (viewV H 8) = some vs) (ht : g ty vs = some (.sc v)) (h : K (.sc v) H = r) : (PR n β).call ty (.fn f [] []) args H (fun x H => K x H) = r := by
 rw [PR_ext hg hv ht, instT_sc, List.append_nil]
 exact h
theorem implTextF (ty : Nat) (s : ByteArray) (hs : okS s) : ext143 ty [.sc (.string s)] = some (.sc (.bool (vTextOk s))) := by
 have hm : maxLen = 9223372036854775807 := by decide
 show (if s.size ≤ maxLen then _ else _) = _
 rw [hm, if_pos (show s.size ≤ 9223372036854775807 from hs)]
end Go.Proofs.YtejjggnchdldoaaGreatDoor.Abs
set_option linter.unusedVariables false
set_option linter.unusedSimpArgs false
namespace Go.Proofs.YtejjggnchdldoaaGreatDoor.Abs
open Go
section own
variable {ti : Nat → Option TI} {tp : Nat → Option (List Nat)}
theorem ownL_cons {f : Nat → AV → Option (AV × List Nat)} {t : Nat} {ts : List Nat} {x : AV} {xs : List AV} {p : List AV × List Nat} (h : ownL f (t :: ts) (x :: xs) = some p) :
  ∃ a b, f t x = some a ∧ ownL f ts xs = some b ∧ p = (a.1 :: b.1, a.2 ++ b.2) := by
 simp only [ownL, Option.bind_eq_some_iff] at h
 obtain ⟨a, h1, b, h2, h3⟩ := h
 exact ⟨a, b, h1, h2, (Option.some.inj h3).symm⟩
theorem ownL_nil {f : Nat → AV → Option (AV × List Nat)} {ts : List Nat} {p : List AV × List Nat} (h : ownL f ts [] = some p) : ts = [] ∧ p = ([], []) := by
 cases ts with
 | nil => exact ⟨rfl, (Option.some.inj h).symm⟩
 | cons t ts => simp [ownL] at h
theorem ownL_len {f : Nat → AV → Option (AV × List Nat)} : ∀ {ts : List Nat} {xs : List AV} {p : List AV × List Nat}, ownL f ts xs = some p → ts.length = xs.length ∧ p.1.length = xs.length
 | ts, [], p, h => by
  obtain ⟨rfl, rfl⟩ := ownL_nil h
  exact ⟨rfl, rfl⟩
 | [], _ :: _, p, h => by simp [ownL] at h
 | t :: ts, x :: xs, p, h => by
  obtain ⟨a, b, h1, h2, rfl⟩ := ownL_cons h
  obtain ⟨e1, e2⟩ := ownL_len h2
  simp [e1, e2]
theorem ownL_append {f : Nat → AV → Option (AV × List Nat)} : ∀ {ts us : List Nat} {xs ys : List AV} {p q : List AV × List Nat}, ownL f ts xs = some p → ownL f us ys = some q → ownL f (ts ++ us) (xs ++ ys) = some (p.1 ++ q.1, p.2 ++ q.2)
 | ts, us, [], ys, p, q, h, h' => by
  obtain ⟨rfl, rfl⟩ := ownL_nil h
  exact h'
 | [], _, _ :: _, _, _, _, h, _ => by simp [ownL] at h
 | t :: ts, us, x :: xs, ys, p, q, h, h' => by
  obtain ⟨a, b, h1, h2, rfl⟩ := ownL_cons h
  have ih := ownL_append h2 h'
  rw [List.cons_append, List.cons_append, ownL, h1, Option.bind_some, ih]
  simp
theorem ownL_frame {f f' : Nat → AV → Option (AV × List Nat)} : ∀ {ts : List Nat} {xs : List AV} {p : List AV × List Nat}, (∀ t x a, f t x = some a → (∀ i ∈ a.2, i ∈ p.2) → f' t x = some a) → ownL f ts xs = some p → ownL f' ts xs = some p
 | ts, [], p, _, h => by
  obtain ⟨rfl, rfl⟩ := ownL_nil h
  rfl
 | [], _ :: _, p, _, h => by simp [ownL] at h
 | t :: ts, x :: xs, p, hf, h => by
  obtain ⟨a, b, h1, h2, rfl⟩ := ownL_cons h
  have e1 := hf t x a h1 fun i hi => List.mem_append_left _ hi
  have e2 := ownL_frame (f' := f') (fun t x a' h hi => hf t x a' h fun i hi' => List.mem_append_right _ (hi i hi')) h2
  rw [ownL, e1, Option.bind_some, e2]
  rfl
theorem own_frame {H H' : Heap} : ∀ (d ty : Nat) (x : AV) (p : AV × List Nat), ownT ti tp H d ty x = some p → (∀ i ∈ p.2, H'[i]? = H[i]?) → ownT ti tp H' d ty x = some p
 | 0, _, _, _, h, _ => by simp [ownT] at h
 | d + 1, ty, x, p, h, hs => by
  cases x with
  | sc v => exact h
  | nl => exact h
  | sl id off n z =>
   rw [ownT_sl] at h ⊢
   simp only [Option.bind_eq_some_iff] at h
   obtain ⟨i, h1, j, h2, h3⟩ := h
   split at h3
   case isFalse => cases h3
   rename_i hz
   split at h3
   case isFalse => cases h3
   rename_i ha
   simp only [Option.bind_eq_some_iff] at h3
   obtain ⟨cs, h4, q, h5, h6⟩ := h3
   obtain rfl := (Option.some.inj h6).symm
   have hid := hs id List.mem_cons_self
   have e1 : isApp H' id = true := by simpa only [isApp, hid] using ha
   have e2 : rdCells H' id off (n * z) = some cs := by simpa only [rdCells, hid] using h4
   have e3 := ownL_frame (f' := ownT ti tp H' d) (fun t x a h hi => own_frame d t x a h fun i' hi' => hs i' (List.mem_cons_of_mem _ (hi i' hi'))) h5
   simp only [h1, h2, Option.bind_some, hz, if_true, e1, e3]
   rw [hz] at e2
   rw [e2]
   simp only [Option.bind_some, e3]
  | agg cs =>
   rw [ownT_agg] at h ⊢
   simp only [Option.bind_eq_some_iff] at h
   obtain ⟨i, h1, q, h2, h3⟩ := h
   obtain rfl := (Option.some.inj h3).symm
   have e3 := ownL_frame (f' := ownT ti tp H' d) (fun t x a h hi => own_frame d t x a h fun i' hi' => hs i' (hi i' hi')) h2
   rw [h1, Option.bind_some, e3]
   rfl
  | tup cs =>
   rw [ownT_tup] at h ⊢
   simp only [Option.bind_eq_some_iff] at h
   obtain ⟨i, h1, q, h2, h3⟩ := h
   obtain rfl := (Option.some.inj h3).symm
   have e3 := ownL_frame (f' := ownT ti tp H' d) (fun t x a h hi => own_frame d t x a h fun i' hi' => hs i' (hi i' hi')) h2
   rw [h1, Option.bind_some, e3]
   rfl
  | _ => simp [ownT] at h
theorem ownL_lt {f : Nat → AV → Option (AV × List Nat)} {N : Nat} : ∀ {ts : List Nat} {xs : List AV} {p : List AV × List Nat}, (∀ t x a, f t x = some a → ∀ i ∈ a.2, i < N) → ownL f ts xs = some p → ∀ i ∈ p.2, i < N
 | ts, [], p, _, h => by
  obtain ⟨rfl, rfl⟩ := ownL_nil h
  intro i hi
  cases hi
 | [], _ :: _, p, _, h => by simp [ownL] at h
 | t :: ts, x :: xs, p, hf, h => by
  obtain ⟨a, b, h1, h2, rfl⟩ := ownL_cons h
  intro i hi
  rcases List.mem_append.1 hi with hi | hi
  ·exact hf t x a h1 i hi
  ·exact ownL_lt hf h2 i hi
theorem own_lt {H : Heap} : ∀ (d ty : Nat) (x : AV) (p : AV × List Nat), ownT ti tp H d ty x = some p → ∀ i ∈ p.2, i < H.length
 | 0, _, _, _, h => by simp [ownT] at h
 | d + 1, ty, x, p, h => by
  cases x with
  | sc v =>
   obtain rfl := (Option.some.inj h).symm
   intro i hi
   cases hi
  | nl =>
   obtain rfl := (Option.some.inj h).symm
   intro i hi
   cases hi
  | sl id off n z =>
   rw [ownT_sl] at h
   simp only [Option.bind_eq_some_iff] at h
   obtain ⟨i, h1, j, h2, h3⟩ := h
   split at h3
   case isFalse => cases h3
   split at h3
   case isFalse => cases h3
   rename_i ha
   simp only [Option.bind_eq_some_iff] at h3
   obtain ⟨cs, h4, q, h5, h6⟩ := h3
   obtain rfl := (Option.some.inj h6).symm
   intro i' hi'
   rcases List.mem_cons.1 hi' with rfl | hi'
   ·unfold isApp at ha
    cases hg : H[i']? with
    | none => rw [hg] at ha; cases ha
    | some b => exact (List.getElem?_eq_some_iff.1 hg).1
   ·exact ownL_lt (fun t x a h => own_lt d t x a h) h5 i' hi'
  | agg cs =>
   rw [ownT_agg] at h
   simp only [Option.bind_eq_some_iff] at h
   obtain ⟨i, h1, q, h2, h3⟩ := h
   obtain rfl := (Option.some.inj h3).symm
   exact ownL_lt (fun t x a h => own_lt d t x a h) h2
  | tup cs =>
   rw [ownT_tup] at h
   simp only [Option.bind_eq_some_iff] at h
   obtain ⟨i, h1, q, h2, h3⟩ := h
   obtain rfl := (Option.some.inj h3).symm
   exact ownL_lt (fun t x a h => own_lt d t x a h) h2
  | _ => simp [ownT] at h
end own
def OwnC (d : Nat) (H : Heap) (ts : List Nat) (raw cells : List AV) (ids : List Nat) : Prop := ownL (ownT ti0 E0.tp H d) ts raw = some (cells, ids)
theorem OwnC.frame {d : Nat} {H H' : Heap} {ts : List Nat} {raw cells : List AV} {ids : List Nat} (h : OwnC d H ts raw cells ids) (hs : ∀ i ∈ ids, H'[i]? = H[i]?) : OwnC d H' ts raw cells ids :=
 ownL_frame (fun t x a h hi => own_frame d t x a h fun i hi' => hs i (hi i hi')) h
theorem OwnC.lt {d : Nat} {H : Heap} {ts : List Nat} {raw cells : List AV} {ids : List Nat} (h : OwnC d H ts raw cells ids) : ∀ i ∈ ids, i < H.length := ownL_lt (fun t x a h => own_lt d t x a h) h
theorem OwnC.grow {d : Nat} {H : Heap} {ts : List Nat} {raw cells : List AV} {ids : List Nat} (h : OwnC d H ts raw cells ids) (X : List Blk) : OwnC d (H ++ X) ts raw cells ids :=
 h.frame fun i hi => List.getElem?_append_left (h.lt i hi)
theorem OwnC.append {d : Nat} {H : Heap} {ts us : List Nat} {raw raw' cells cells' : List AV} {ids ids' : List Nat} (h : OwnC d H ts raw cells ids) (h' : OwnC d H us raw' cells' ids') : OwnC d H (ts ++ us) (raw ++ raw') (cells ++ cells') (ids ++ ids') := ownL_append h h'
theorem OwnC.len {d : Nat} {H : Heap} {ts : List Nat} {raw cells : List AV} {ids : List Nat} (h : OwnC d H ts raw cells ids) : ts.length = raw.length ∧ cells.length = raw.length := ownL_len h
def OwnS (d : Nat) (H : Heap) (w : Nat) (cty : List Nat) (x : AV) (k : Nat) (cells : List AV) : Prop :=
 (x = .nl ∧ k = 0 ∧ cells = []) ∨ ∃ id raw ids, x = .sl id 0 k w ∧ H[id]? = some ⟨raw, true, true⟩ ∧ raw.length = k * w ∧ OwnC d H (List.replicate k cty).flatten raw cells ids ∧ (id :: ids).Nodup
theorem OwnS.nil (d : Nat) (H : Heap) (w : Nat) (cty : List Nat) : OwnS d H w cty .nl 0 [] := .inl ⟨rfl, rfl, rfl⟩
theorem OwnS.grow {d : Nat} {H : Heap} {w : Nat} {cty : List Nat} {x : AV} {k : Nat} {cells : List AV} (h : OwnS d H w cty x k cells) (X : List Blk) : OwnS d (H ++ X) w cty x k cells := by
 rcases h with h | ⟨id, raw, ids, h1, h2, h3, h4, h5⟩
 ·exact .inl h
 ·exact .inr ⟨id, raw, ids, h1, by rw [List.getElem?_append_left (List.getElem?_eq_some_iff.1 h2).1]; exact h2, h3, h4.grow X, h5⟩
variable {β : Type} {n : Nat} {r : Option β}
theorem set_at (A : Heap) (b b' : Blk) (R : Heap) : (A ++ b :: R).set A.length b' = A ++ b' :: R := by
 rw [List.set_append_right _ _ (Nat.le_refl _), Nat.sub_self]
 rfl
theorem get_at (A : Heap) (b : Blk) (R : Heap) : (A ++ b :: R)[A.length]? = some b := by
 rw [List.getElem?_append_right (Nat.le_refl _), Nat.sub_self]
 rfl
theorem app_one {d : Nat} {H X : Heap} {w bytes : Nat} {cty : List Nat} {x : AV} {k : Nat} {cells er ec : List AV} {eids : List Nat} {K : AV → Heap → Option β} (hx : OwnS d H w cty x k cells) (hw : er.length = w) (hl : er.all isLeaf = true)
  (he : OwnC d (H ++ X) cty er ec eids) (hn : eids.Nodup) (hge : ∀ i ∈ eids, H.length ≤ i) (hb : (k + 1) * bytes ≤ 140737488355328)
  (h : ∀ x' H', OwnS d H' w cty x' (k + 1) (cells ++ ec) → K x' H' = r) :
  pNewSl 1 w er true (H ++ X) (fun y G => pApp w bytes x y G K) = r := by
 have hy : ∀ G : Heap, content (G ++ [⟨er, true, true⟩]) w (.sl G.length 0 1 w) = some er := by
  intro G
  simp only [content, if_true, Nat.one_mul, rdCells, get_at G _ [], Nat.zero_add, hw, Nat.le_refl, List.drop_zero]
  rw [← hw, List.take_length]
 have hell : (H ++ X).length ∉ eids := fun hm => Nat.lt_irrefl _ (he.lt _ hm)
 rcases hx with ⟨rfl, rfl, rfl⟩ | ⟨id, raw, ids, rfl, h2, h3, h4, h5⟩
 ·simp only [pNewSl, pApp, lenA, Option.bind_some, hy]
  rw [show content (H ++ X ++ [⟨er, true, true⟩]) w .nl = some [] from rfl]
  simp only [Option.bind_some, kill]
  rw [if_pos hb, if_pos hl]
  refine h _ _ (.inr ⟨_, er, eids, rfl, ?_, by simp [hw], ?_, ?_⟩)
  ·rw [List.getElem?_append_right (Nat.le_refl _), Nat.sub_self]
   rfl
  ·simp only [Nat.zero_add, List.replicate_one, List.flatten_cons, List.flatten_nil, List.append_nil, List.nil_append]
   exact (he.grow _).grow _
  ·rw [List.nodup_cons]
   refine ⟨fun hm => ?_, hn⟩
   have := he.lt _ hm
   simp at this
   omega
 ·have hid : id < H.length := (List.getElem?_eq_some_iff.1 h2).1
  have hg : (H ++ X ++ [(⟨er, true, true⟩ : Blk)])[id]? = some ⟨raw, true, true⟩ := by
   rw [List.append_assoc, List.getElem?_append_left hid]
   exact h2
  have hcx : content (H ++ X ++ [⟨er, true, true⟩]) w (.sl id 0 k w) = some raw := by
   simp only [content, if_true, rdCells, hg, Nat.zero_add, h3, Nat.le_refl, List.drop_zero]
   rw [← h3, List.take_length]
  simp only [pNewSl, pApp, lenA, Option.bind_some, hy, hcx, kill, hg, if_true]
  rw [if_pos hb, if_pos hl]
  have hn5 := List.nodup_cons.1 h5
  have hne : ∀ i ∈ ids, i ≠ id := fun i hi e => hn5.1 (e ▸ hi)
  have hne2 : ∀ i ∈ eids, i ≠ id := fun i hi e => by
   have := hge i hi
   omega
  refine h _ _ (.inr ⟨_, raw ++ er, ids ++ eids, rfl, ?_, by simp [h3, hw, Nat.succ_mul], ?_, ?_⟩)
  ·rw [List.getElem?_append_right (Nat.le_refl _), Nat.sub_self]
   rfl
  ·have e : (List.replicate (k + 1) cty).flatten = (List.replicate k cty).flatten ++ cty := by
    rw [List.replicate_succ', List.flatten_append]
    simp
   rw [e]
   refine OwnC.append ?_ ?_
   ·refine OwnC.grow (OwnC.frame (H := H ++ X ++ [⟨er, true, true⟩]) ((h4.grow X).grow _) fun i hi => ?_) _
    rw [List.getElem?_set_ne (fun e => hne i hi e.symm)]
   ·refine OwnC.grow (OwnC.frame (H := H ++ X ++ [⟨er, true, true⟩]) (he.grow _) fun i hi => ?_) _
    rw [List.getElem?_set_ne (fun e => hne2 i hi e.symm)]
  ·rw [List.nodup_cons]
   refine ⟨fun hm => ?_, ?_⟩
   ·rcases List.mem_append.1 hm with hm | hm
    ·have := h4.lt _ hm
     simp at this
     omega
    ·have := he.lt _ hm
     simp at this
     omega
   ·rw [List.nodup_append]
    refine ⟨hn5.2, hn, fun a ha b hb e => ?_⟩
    have h1 := h4.lt a ha
    have h2 := hge b hb
    omega
theorem own_new {d : Nat} {H : Heap} {ts : List Nat} {cs : List AV} (h : okLW (okW ti0 E0.tp d) ts cs) : OwnC d (H ++ (instL ti0 E0.tp H.length ts cs).2) ts (instL ti0 E0.tp H.length ts cs).1 cs (List.range' H.length (instL ti0 E0.tp H.length ts cs).2.length) :=
 own_instL (fun ty t N h h' _ => own_inst d ty t N h h') ts cs H.length h (Lies_end _ _) (instL_live _ _ _)
theorem own_res {d : Nat} {H : Heap} {w tyS k : Nat} {cty : List Nat} {x : AV} {cells : List AV} (hty : ∃ i j, ti0 tyS = some i ∧ ti0 i.elem = some j ∧ j.size = w ∧ j.cty = cty) (h : OwnS d H w cty x k cells) : ∃ ids, ownT ti0 E0.tp H (d + 1) tyS x = some (.ro k cells, ids) ∧ ids.Nodup := by
 rcases h with ⟨rfl, rfl, rfl⟩ | ⟨id, raw, ids, rfl, h2, h3, h4, h5⟩
 ·exact ⟨[], rfl, List.nodup_nil⟩
 ·obtain ⟨i, j, e1, e2, rfl, rfl⟩ := hty
  refine ⟨id :: ids, ?_, h5⟩
  rw [ownT_sl]
  have ha : isApp H id = true := by simp only [isApp, h2]
  have hr : rdCells H id 0 (k * j.size) = some raw := by
   simp only [rdCells, h2, if_true, Nat.zero_add, h3, Nat.le_refl, List.drop_zero]
   rw [← h3, List.take_length]
  have h4' : ownL (ownT ti0 E0.tp H d) (List.replicate k j.cty).flatten raw = some (cells, ids) := h4
  simp only [e1, e2, Option.bind_some, if_true, ha, hr, h4']
end Go.Proofs.YtejjggnchdldoaaGreatDoor.Abs
set_option linter.unusedVariables false
set_option linter.unusedSimpArgs false
set_option maxRecDepth 100000
namespace Go.Proofs.YtejjggnchdldoaaGreatDoor.Abs
open Go
def vTopicOk (s : ByteArray) : Bool := vTextOk s && !(s.toList == (⟨#[]⟩ : ByteArray).toList) && !(vHas s 43) && !(vHas s 35) && decide (((vLevels s).length : Int) ≤ 6)
section
variable {β : Type} {n : Nat} {H : Heap} {r : Option β}
theorem lw_list {ty f len : Nat} {args vs cells : List AV} {K : AV → Heap → Option β} (hh : plainF f = false) (hv : args.mapM (viewV H 8) = some vs) (ht : tree E0 n ty f vs = some (.ro len cells)) (h : ∀ N X sz, K (.sl N 0 len sz) (H ++ X) = r) : (PR n β).call ty (.fn f [] []) args H (fun x H => K x H) = r := by
 rw [PR_call hh hv ht]
 exact h _ _ _
theorem w_endS {b b' : Bool} (h : b = b') : some (AV.sc (.bool b)) = some (AV.sc (.bool b')) := by rw [h]
theorem w_iadrE {α : Type} {w : Nat} {enc : α → List AV} {l pre t : List α} {x : α} {K : AV → Option β} (hw : ∀ x, (enc x).length = w) (h0 : 0 < w) (hl : l = pre ++ x :: t) (h : K (.rp (enc x ++ (t.map enc).flatten)) = r) : pIadr w (rowsC enc l) (.sc (.int .i64 (pre.length : Int))) (fun t => K t) = r := by
 subst hl
 exact (el_ro (β := β) hw h0 pre x t (fun t => K t)).trans h
theorem w_iadrP {α : Type} {w : Nat} {enc : α → List AV} {l pre t : List α} {K : AV → Option β} (hw : ∀ x, (enc x).length = w) (h0 : 0 < w) (hp : decide ((pre.length : Int) > 0) = true) (hl : l = pre ++ t) (hlen : l.length ≤ 1048576) (h : ∀ y, pre.getLast? = some y → K (.rp (enc y ++ (t.map enc).flatten)) = r) : pIadr w (rowsC enc l) (.sc (.int .i64 (IntKind.i64.wrap ((pre.length : Int) - 1)))) (fun t => K t) = r := by
 cases hg : pre.getLast? with
 | none =>
  rw [List.getLast?_eq_none_iff] at hg
  subst hg
  simp at hp
 | some y =>
  obtain ⟨p, rfl⟩ := List.getLast?_eq_some_iff.1 hg
  have hlp : p.length < 1048576 := by
   rw [hl] at hlen
   simp at hlen
   omega
  have e : IntKind.i64.wrap (((p ++ [y]).length : Int) - 1) = (p.length : Int) := by
   rw [List.length_append, List.length_singleton, wrap64 _ (by omega) (by omega)]
   omega
  rw [e]
  exact w_iadrE hw h0 (hl.trans (by simp)) (h y hg)
theorem w_lenL {id off m w : Nat} {K : AV → Option β} (h : K (.sc (.int .i64 m)) = r) : pLen (.sl id off m w) (fun t => K t) = r := h
end
section has
variable (n : Nat) (k : AV → Heap → Option AV) (H : Heap)
theorem has_loop (s : ByteArray) (b : UInt8) (hs : s.size ≤ 1048576) : ∀ (r pre : List UInt8) (m : Nat), s.data.toList = pre ++ r → r.length < m →
  f159_l0 (PR n AV) n k m (.sc (.string s)) (.sc (.int .u8 b.toNat)) (.sc (.int .i64 pre.length)) H = k (.sc (.bool (r.any fun c => c == b))) H
 | [], pre, m + 1, hl, hm => by
  have h1 : s.size = pre.length := by
   have := congrArg List.length hl
   simpa using this
  rw [f159_l0]
  simp only [PR_lenS, PR_bin, PR_cond]
  rw [lenSc, lss_nat, h1, cond_b, if_neg (by simp)]
  rfl
 | c :: r, pre, m + 1, hl, hm => by
  have h1 : s.size = pre.length + r.length + 1 := by
   have := congrArg List.length hl
   simpa [Nat.add_assoc] using this
  rw [f159_l0]
  simp only [PR_lenS, PR_bin, PR_cond, PR_idx]
  rw [lenSc, lss_nat, cond_b, if_pos (by simp; omega), idx_s s pre.length c _ (by rw [hl]; simp)]
  have he : ∀ K : AV → Option AV, pBin .eql (.sc (.int .u8 (c.toNat : Int))) (.sc (.int .u8 (b.toNat : Int))) K = K (.sc (.bool (c == b))) := by
   intro K
   show K (.sc (.bool ((c.toNat : Int) == (b.toNat : Int)))) = _
   congr 3
   rw [Bool.eq_iff_iff, beq_iff_eq, beq_iff_eq, Int.ofNat_inj, UInt8.toNat_inj]
  rw [he, cond_b, List.any_cons]
  cases hcb : (c == b)
  ·rw [if_neg (by simp), inc_nat _ _ (by omega)]
   have ih := has_loop s b hs r (pre ++ [c]) m (by rw [hl]; simp) (by simpa using hm)
   rw [List.length_append, List.length_singleton] at ih
   rw [ih]
   rfl
  ·rw [if_pos rfl]
   rfl
end has
theorem hasF (n : Nat) (hn : 1048576 < n) (ty : Nat) (s : ByteArray) (b : UInt8) (hs : s.size ≤ 1048576) : tree E0 (n + 1) ty 159 [.sc (.string s), .sc (.int .u8 b.toNat)] = some (.sc (.bool (vHas s b))) := by
 rw [tree_def, f159_eq, f159]
 have key := has_loop n (fun x H => ownTree ti0 E0.tp ty H x) [] s b hs s.data.toList [] n rfl (by simp; omega)
 simp only [List.length_nil, Int.natCast_zero] at key
 rw [key]
 rfl
theorem has43 (n : Nat) (hn : 1048576 < n) (ty : Nat) (s : ByteArray) (hs : s.size ≤ 1048576) : tree E0 (n + 1) ty 159 [.sc (.string s), .sc (.int .u8 43)] = some (.sc (.bool (vHas s 43))) := hasF n hn ty s 43 hs
theorem has35 (n : Nat) (hn : 1048576 < n) (ty : Nat) (s : ByteArray) (hs : s.size ≤ 1048576) : tree E0 (n + 1) ty 159 [.sc (.string s), .sc (.int .u8 35)] = some (.sc (.bool (vHas s 35))) := hasF n hn ty s 35 hs
theorem strs_ty : ∃ i j, ti0 64 = some i ∧ ti0 i.elem = some j ∧ j.size = 1 ∧ j.cty = [i.elem] := ⟨_, _, rfl, rfl, rfl, rfl⟩
def strC (l : List UInt8) : AV := .sc (.string (ofL l))
theorem ofL_extract (s : ByteArray) (P cur r : List UInt8) (h : s.data.toList = P ++ (cur ++ r)) : s.extract P.length (P.length + cur.length) = ofL cur := by
 have : (s.extract P.length (P.length + cur.length)).data.toList = cur := by
  rw [ByteArray.data_extract, Array.toList_extract, List.extract, h]
  rw [List.drop_append_of_le_length (Nat.le_refl _), List.drop_length, List.nil_append, Nat.add_sub_cancel_left, List.take_append_of_le_length (Nat.le_refl _), List.take_length]
 rw [← ofL_data (s.extract _ _), this]
theorem lev_piece {H : Heap} {x : AV} {cnt : Nat} {cells : List AV} {K : AV → Heap → Option AV} {r : Option AV} (s : ByteArray) (P cur rest : List UInt8) (hl : s.data.toList = P ++ (cur ++ rest)) (hs : s.size ≤ 1048576) (hx : OwnS 7 H 1 [9] x cnt cells) (hc : cnt ≤ 1048577)
  (h : ∀ x' H', OwnS 7 H' 1 [9] x' (cnt + 1) (cells ++ [strC cur]) → K x' H' = r) :
  (pSliceS (.sc (.string s)) (some (.sc (.int .i64 P.length))) (some (.sc (.int .i64 ((P.length + cur.length : Nat) : Int)))) fun t27 => (fillA [(.sc (.string ⟨#[]⟩))] [(0, 1, t27)]).bind fun ct28 => pNewSl 1 1 ct28 true H fun t28 H => pApp 1 16 x t28 H K) = r := by
 have hsz : P.length + cur.length ≤ s.size := by
  have := congrArg List.length hl
  simp at this
  omega
 simp only [pSliceS, asS, bound, asI, Option.bind_some]
 rw [if_pos (by omega)]
 simp only [Int.toNat_natCast]
 rw [ofL_extract s P cur rest hl]
 have hf : fillA [(.sc (.string ⟨#[]⟩))] [(0, 1, .sc (.string (ofL cur)))] = some [.sc (.string (ofL cur))] := rfl
 rw [hf, Option.bind_some]
 have key := app_one (H := H) (X := []) (bytes := 16) (er := [.sc (.string (ofL cur))]) (ec := [strC cur]) (eids := []) (K := K) (r := r) hx rfl rfl rfl List.nodup_nil (fun i hi => by cases hi) (by omega) h
 rw [List.append_nil] at key
 exact key
theorem lev_loop (n : Nat) (s : ByteArray) (hs : s.size ≤ 1048576) : ∀ (r P cur : List UInt8) (m : Nat) (x : AV) (H : Heap) (cnt : Nat) (cells : List AV), s.data.toList = P ++ (cur ++ r) → r.length + 1 < m → OwnS 7 H 1 [9] x cnt cells → cnt ≤ P.length →
  f160_l0 (PR n AV) n (fun x H => ownTree ti0 E0.tp 64 H x) m (.sc (.string s)) x (.sc (.int .i64 P.length)) (.sc (.int .i64 ((P.length + cur.length : Nat) : Int))) H = some (.ro (cnt + (lvL cur r).length) (cells ++ (lvL cur r).map strC))
 | [], P, cur, m + 2, x, H, cnt, cells, hl, hm, hx, hc => by
  have h1 : s.size = P.length + cur.length := by
   have := congrArg List.length hl
   simpa using this
  rw [f160_l0]
  simp only [PR_lenS, PR_bin, PR_cond, PR_guard, PR_pick, PR_sliceS, PR_fill, PR_newSl, PR_app, PR_idx]
  rw [lenSc, leq64, cond_b, if_pos (by simp; omega), lenSc, eql64]
  have he : (((P.length + cur.length : Nat) : Int) == (s.size : Int)) = true := by simp; omega
  refine w_hF he ?_
  refine w_hF he ?_
  refine w_hF he ?_
  refine w_hF he ?_
  refine w_pT he ?_
  refine w_cT rfl ?_
  refine lev_piece s P cur [] hl hs hx (by omega) fun x' H' hx' => ?_
  rw [inc_nat _ _ (by omega), inc_nat _ _ (by omega)]
  rw [f160_l0]
  simp only [PR_lenS, PR_bin, PR_cond]
  rw [lenSc, leq64, cond_b, if_neg (by simp; omega)]
  obtain ⟨i, j, e1, e2, e3, e4⟩ := strs_ty
  obtain ⟨ids, ho, hno⟩ := own_res (d := 7) (tyS := 64) (w := 1) (cty := [9]) ⟨_, _, rfl, rfl, rfl, rfl⟩ hx'
  rw [ownTree, ho, Option.bind_some, if_pos hno]
  rfl
 | c :: r, P, cur, m + 1, x, H, cnt, cells, hl, hm, hx, hc => by
  have h1 : s.size = P.length + cur.length + r.length + 1 := by
   have := congrArg List.length hl
   simp at this
   omega
  have hidx : s.data.toList[P.length + cur.length]? = some c := by
   rw [hl, ← List.append_assoc, ← List.length_append, List.getElem?_append_right (Nat.le_refl _), Nat.sub_self]
   rfl
  rw [f160_l0]
  simp only [PR_lenS, PR_bin, PR_cond, PR_guard, PR_pick, PR_sliceS, PR_fill, PR_newSl, PR_app, PR_idx]
  rw [lenSc, leq64, cond_b, if_pos (by simp; omega), lenSc, eql64]
  have he : (((P.length + cur.length : Nat) : Int) == (s.size : Int)) = false := by simp; omega
  refine w_hT he ?_
  refine w_hT he ?_
  refine w_hT he ?_
  rw [idx_s s (P.length + cur.length) c _ hidx]
  refine w_hT he ?_
  refine w_bin (v := .sc (.bool (c == 47))) (fun K => ?_) ?_
  ·show K (.sc (.bool ((c.toNat : Int) == (47 : Int)))) = _
   congr 3
   rw [Bool.eq_iff_iff, beq_iff_eq, beq_iff_eq, show (47 : Int) = (((47 : UInt8).toNat : Nat) : Int) from rfl, Int.ofNat_inj, UInt8.toNat_inj]
  refine w_pF he ?_
  rw [lvL]
  by_cases h47 : c = 47
  ·refine w_cT (by simp [h47]) ?_
   refine lev_piece s P cur (c :: r) hl hs hx (by omega) fun x' H' hx' => ?_
   rw [inc_nat _ _ (by omega), inc_nat _ _ (by omega), if_pos h47]
   have ih := lev_loop n s hs r (P ++ cur ++ [c]) [] m x' H' (cnt + 1) (cells ++ [strC cur]) (by rw [hl]; simp) (by simpa using hm) hx' (by simp; omega)
   simp only [List.length_append, List.length_nil, List.length_singleton, Nat.add_zero] at ih
   rw [ih]
   simp [Nat.add_assoc, Nat.add_comm]
  ·refine w_cF (by simpa using h47) ?_
   rw [inc_nat _ _ (by omega), if_neg h47]
   have ih := lev_loop n s hs r P (cur ++ [c]) m x H cnt cells (by rw [hl]; simp) (by simpa using hm) hx hc
   rw [List.length_append, List.length_singleton, ← Nat.add_assoc] at ih
   exact ih
theorem specLevelsF (n : Nat) (hn : 1048577 < n) (s : ByteArray) (hs : s.size ≤ 1048576) : tree E0 (n + 1) 64 160 [.sc (.string s)] = some (.ro (vLevels s).length ((vLevels s).map fun x => .sc (.string x))) := by
 rw [tree_def, f160_eq, f160]
 have key := lev_loop n s hs s.data.toList [] [] n .nl [] 0 [] rfl (by simp; omega) (OwnS.nil _ _ _ _) (by simp)
 simp only [List.length_nil, Int.natCast_zero, Nat.zero_add, List.nil_append] at key
 rw [key, vLevels, List.length_map, List.map_map]
 rfl
theorem implLevelsF (n : Nat) (s : ByteArray) (hs : s.size ≤ 1048576) : tree E0 (n + 1) 64 163 [.sc (.string s)] = some (.ro (vLevels s).length ((vLevels s).map fun x => .sc (.string x))) := by
 rw [tree_def, f163_eq, f163]
 have hg : ext172 64 [.sc (.string s), .sc (.string ⟨#[47]⟩)] = some (.ro (vLevels s).length ((vLevels s).map fun x => .sc (.string x))) := by
  unfold ext172
  exact if_pos ⟨rfl, rfl, by omega⟩
 rw [PR_ext (g := ext172) rfl (vcons (Vw_sc _ _) (vcons (Vw_sc _ _) vnil)) hg]
 refine own_ret [] _ _ ?_
 refine ⟨_, _, rfl, rfl, by simp, ?_⟩
 have := okLW_rows (f := okW ti0 E0.tp 7) (cty := [9]) (enc := fun x : ByteArray => [.sc (.string x)]) (vLevels s) (fun x _ => ⟨trivial, trivial⟩)
 rw [flat_one] at this
 exact this
theorem containsF (ty : Nat) (s : ByteArray) (hs : s.size ≤ 1048576) : ext162 ty [.sc (.string s), .sc (.string ⟨#[43, 35]⟩)] = some (.sc (.bool (vPH s))) := by
 unfold ext162
 exact if_pos ⟨rfl, by omega⟩
end Go.Proofs.YtejjggnchdldoaaGreatDoor.Abs
set_option linter.unusedVariables false
set_option linter.unusedSimpArgs false
set_option maxRecDepth 100000
namespace Go.Proofs.YtejjggnchdldoaaGreatDoor.Abs
open Go
theorem okS_of {s : ByteArray} (h : s.size ≤ 1048576) : okS s := Nat.le_trans h (by decide)
theorem specTopicF (n : Nat) (hn : 1048576 < n) (ty : Nat) (s : ByteArray) (hs : s.size ≤ 1048576) : tree E0 (n + 5) ty 144 [.sc (.string s)] = some (.sc (.bool (vTopicOk s))) := by
 rw [tree_def, f144_eq, f144]
 try simp only [PR_box, PR_new, PR_fadr, PR_load, PR_store, PR_bin, PR_binB, PR_binA, PR_un, PR_cond, PR_guard, PR_pick, PR_len, PR_lenS, PR_iadr, PR_idx, PR_slice, PR_sliceS, PR_newSl, PR_fill, PR_make, PR_app, PR_cvI, PR_cvBS]
 refine lw_sc rfl (vcons (Vw_sc _ _) vnil) (specTextF (n + 0) (by omega) _ s) ?_
 apply w_merge ((vTextOk s) && (!(s.toList == (⟨#[]⟩ : ByteArray).toList)))
 ·intro b1 q1
  refine w_split ((vTextOk s)) (fun h1 => ?_) (fun h1 => ?_)
  ·refine w_gT h1 ?_
   refine w_gT h1 ?_
   refine w_bin (v := .sc (.bool (!(s.toList == (⟨#[]⟩ : ByteArray).toList)))) (fun k => rfl) ?_
   refine w_pTb h1 (mAT q1 h1) ?_
   exact rfl
  ·refine w_gF h1 ?_
   refine w_gF h1 ?_
   refine w_pFb h1 (mAF q1 h1) ?_
   exact rfl
 intro b1 q1
 apply w_merge (b1 && (!(vHas s 43)))
 ·intro b2 q2
  refine w_split (b1) (fun h2 => ?_) (fun h2 => ?_)
  ·refine w_gT h2 ?_
   refine w_gT h2 ?_
   refine lw_sc rfl (vcons (Vw_sc _ _) (vcons (Vw_sc _ _) vnil)) (has43 (n + 3) (by omega) _ s hs) ?_
   refine w_gT h2 ?_
   refine w_not ?_
   refine w_pTb h2 (mAT q2 h2) ?_
   exact rfl
  ·refine w_gF h2 ?_
   refine w_gF h2 ?_
   refine w_gF h2 ?_
   refine w_pFb h2 (mAF q2 h2) ?_
   exact rfl
 intro b2 q2
 apply w_merge (b2 && (!(vHas s 35)))
 ·intro b3 q3
  refine w_split (b2) (fun h3 => ?_) (fun h3 => ?_)
  ·refine w_gT h3 ?_
   refine w_gT h3 ?_
   refine lw_sc rfl (vcons (Vw_sc _ _) (vcons (Vw_sc _ _) vnil)) (has35 (n + 3) (by omega) _ s hs) ?_
   refine w_gT h3 ?_
   refine w_not ?_
   refine w_pTb h3 (mAT q3 h3) ?_
   exact rfl
  ·refine w_gF h3 ?_
   refine w_gF h3 ?_
   refine w_gF h3 ?_
   refine w_pFb h3 (mAF q3 h3) ?_
   exact rfl
 intro b3 q3
 apply w_merge (b3 && (decide (((vLevels s).length : Int) ≤ 6)))
 ·intro b4 q4
  refine w_split (b3) (fun h4 => ?_) (fun h4 => ?_)
  ·refine w_gT h4 ?_
   refine w_gT h4 ?_
   refine lw_list rfl (vcons (Vw_sc _ _) vnil) (specLevelsF (n + 3) (by omega) s hs) fun N5 X5 z5 => ?_
   refine w_gT h4 ?_
   refine w_lenL ?_
   refine w_gT h4 ?_
   refine w_bin (v := .sc (.bool (decide (((vLevels s).length : Int) ≤ 6)))) (fun k => rfl) ?_
   refine w_pTb h4 (mAT q4 h4) ?_
   exact rfl
  ·refine w_gF h4 ?_
   refine w_gF h4 ?_
   refine w_gF h4 ?_
   refine w_gF h4 ?_
   refine w_pFb h4 (mAF q4 h4) ?_
   exact rfl
 intro b4 q4
 exact w_endS (by subst_vars; unfold vTopicOk; first | rfl | (unfold vPH; cases vTextOk s <;> cases vHas s 43 <;> cases vHas s 35 <;> simp))
theorem implTopicF (n : Nat) (hn : 1048576 < n) (ty : Nat) (s : ByteArray) (hs : s.size ≤ 1048576) : tree E0 (n + 5) ty 148 [.sc (.string s)] = some (.sc (.bool (vTopicOk s))) := by
 rw [tree_def, f148_eq, f148]
 try simp only [PR_box, PR_new, PR_fadr, PR_load, PR_store, PR_bin, PR_binB, PR_binA, PR_un, PR_cond, PR_guard, PR_pick, PR_len, PR_lenS, PR_iadr, PR_idx, PR_slice, PR_sliceS, PR_newSl, PR_fill, PR_make, PR_app, PR_cvI, PR_cvBS]
 refine lw_ext rfl (vcons (Vw_sc _ _) vnil) (implTextF _ s (okS_of hs)) ?_
 apply w_merge ((vTextOk s) && (!(s.toList == (⟨#[]⟩ : ByteArray).toList)))
 ·intro b1 q1
  refine w_split ((vTextOk s)) (fun h1 => ?_) (fun h1 => ?_)
  ·refine w_gT h1 ?_
   refine w_gT h1 ?_
   refine w_bin (v := .sc (.bool (!(s.toList == (⟨#[]⟩ : ByteArray).toList)))) (fun k => rfl) ?_
   refine w_pTb h1 (mAT q1 h1) ?_
   exact rfl
  ·refine w_gF h1 ?_
   refine w_gF h1 ?_
   refine w_pFb h1 (mAF q1 h1) ?_
   exact rfl
 intro b1 q1
 apply w_merge (b1 && (!(vPH s)))
 ·intro b2 q2
  refine w_split (b1) (fun h2 => ?_) (fun h2 => ?_)
  ·refine w_gT h2 ?_
   refine w_gT h2 ?_
   refine lw_ext rfl (vcons (Vw_sc _ _) (vcons (Vw_sc _ _) vnil)) (containsF _ s hs) ?_
   refine w_gT h2 ?_
   refine w_not ?_
   refine w_pTb h2 (mAT q2 h2) ?_
   exact rfl
  ·refine w_gF h2 ?_
   refine w_gF h2 ?_
   refine w_gF h2 ?_
   refine w_pFb h2 (mAF q2 h2) ?_
   exact rfl
 intro b2 q2
 apply w_merge (b2 && (decide (((vLevels s).length : Int) ≤ 6)))
 ·intro b3 q3
  refine w_split (b2) (fun h3 => ?_) (fun h3 => ?_)
  ·refine w_gT h3 ?_
   refine w_gT h3 ?_
   refine lw_list rfl (vcons (Vw_sc _ _) vnil) (implLevelsF (n + 3) s hs) fun N4 X4 z4 => ?_
   refine w_gT h3 ?_
   refine w_lenL ?_
   refine w_gT h3 ?_
   refine w_bin (v := .sc (.bool (decide (((vLevels s).length : Int) ≤ 6)))) (fun k => rfl) ?_
   refine w_pTb h3 (mAT q3 h3) ?_
   exact rfl
  ·refine w_gF h3 ?_
   refine w_gF h3 ?_
   refine w_gF h3 ?_
   refine w_gF h3 ?_
   refine w_pFb h3 (mAF q3 h3) ?_
   exact rfl
 intro b3 q3
 exact w_endS (by subst_vars; unfold vTopicOk; first | rfl | (unfold vPH; cases vTextOk s <;> cases vHas s 43 <;> cases vHas s 35 <;> simp))
def vMsgOk (m : MsgV) : Bool := vTopicOk m.fTopic && decide ((m.fBody.size : Int) ≤ 40) && vIn m.fQos 0 2
theorem isQosF (n : Nat) (ty : Nat) (x : Int) : tree E0 (n + 2) ty 149 [.sc (.int .i64 x)] = some (.sc (.bool (vIn x 0 2))) := by
 rw [tree_def, f149_eq, f149]
 try simp only [PR_box, PR_new, PR_fadr, PR_load, PR_store, PR_bin, PR_binB, PR_binA, PR_un, PR_cond, PR_guard, PR_pick, PR_len, PR_lenS, PR_iadr, PR_idx, PR_slice, PR_sliceS, PR_newSl, PR_fill, PR_make, PR_app, PR_cvI, PR_cvBS]
 refine lw_sc rfl (vcons (Vw_sc _ _) (vcons (Vw_sc _ _) (vcons (Vw_sc _ _) vnil))) (withinF (n + 0) _ x 0 2) ?_
 exact w_endB (by first | (simp_all [vIn, vTopicOk, vMsgOk]; done) | (rw [Bool.eq_iff_iff]; simp [vIn, vTopicOk, vMsgOk] at *; omega))
theorem specMsgF (n : Nat) (hn : 1048576 < n) (ty : Nat) (m : MsgV) (hs : m.fTopic.size ≤ 1048576) : tree E0 (n + 6) ty 118 [.agg (encMsg m)] = some (.sc (.bool (vMsgOk m))) := by
 rw [tree_def, f118_eq, f118]
 try simp only [PR_box, PR_new, PR_fadr, PR_load, PR_store, PR_bin, PR_binB, PR_binA, PR_un, PR_cond, PR_guard, PR_pick, PR_len, PR_lenS, PR_iadr, PR_idx, PR_slice, PR_sliceS, PR_newSl, PR_fill, PR_make, PR_app, PR_cvI, PR_cvBS]
 refine w_box (flMsg _) fun iB1 eB1 B1 => ?_
 refine w_fadr ?_
 refine w_ld (c := .sc (.string m.fTopic)) B1 (Nat.le_of_ble_eq_true rfl) rfl ?_
 refine lw_sc rfl (vcons (Vw_sc _ _) vnil) (specTopicF (n + 0) (by omega) _ m.fTopic (by assumption)) ?_
 apply w_merge ((vTopicOk m.fTopic) && (decide ((m.fBody.size : Int) ≤ 40)))
 ·intro b2 q2
  refine w_split ((vTopicOk m.fTopic)) (fun h2 => ?_) (fun h2 => ?_)
  ·refine w_gT h2 ?_
   refine w_fadr ?_
   refine w_gT h2 ?_
   refine w_ld (c := bytesC m.fBody) B1 (Nat.le_of_ble_eq_true rfl) rfl ?_
   refine w_gT h2 ?_
   refine w_len ?_
   refine w_gT h2 ?_
   refine w_bin (v := .sc (.bool (decide ((m.fBody.size : Int) ≤ 40)))) (fun k => rfl) ?_
   refine w_pTb h2 (mAT q2 h2) ?_
   exact rfl
  ·refine w_gF h2 ?_
   refine w_gF h2 ?_
   refine w_gF h2 ?_
   refine w_gF h2 ?_
   refine w_pFb h2 (mAF q2 h2) ?_
   exact rfl
 intro b2 q2
 apply w_merge (b2 && (vIn m.fQos 0 2))
 ·intro b3 q3
  refine w_split (b2) (fun h3 => ?_) (fun h3 => ?_)
  ·refine w_gT h3 ?_
   refine w_fadr ?_
   refine w_gT h3 ?_
   refine w_ld (c := .sc (.int .i64 m.fQos)) B1 (Nat.le_of_ble_eq_true rfl) rfl ?_
   refine w_gT h3 ?_
   refine lw_sc rfl (vcons (Vw_sc _ _) (vcons (Vw_sc _ _) (vcons (Vw_sc _ _) vnil))) (l1InF (n + 4) _ m.fQos 0 2) ?_
   refine w_pTb h3 (mAT q3 h3) ?_
   exact rfl
  ·refine w_gF h3 ?_
   refine w_gF h3 ?_
   refine w_gF h3 ?_
   refine w_pFb h3 (mAF q3 h3) ?_
   exact rfl
 intro b3 q3
 exact w_endB (by subst_vars; first | rfl | (simp only [vMsgOk]; done) | (simp only [vMsgOk]; ac_rfl))
theorem implMsgF (n : Nat) (hn : 1048576 < n) (ty : Nat) (m : MsgV) (hs : m.fTopic.size ≤ 1048576) : tree E0 (n + 6) ty 124 [.agg (encMsg m)] = some (.sc (.bool (vMsgOk m))) := by
 rw [tree_def, f124_eq, f124]
 try simp only [PR_box, PR_new, PR_fadr, PR_load, PR_store, PR_bin, PR_binB, PR_binA, PR_un, PR_cond, PR_guard, PR_pick, PR_len, PR_lenS, PR_iadr, PR_idx, PR_slice, PR_sliceS, PR_newSl, PR_fill, PR_make, PR_app, PR_cvI, PR_cvBS]
 refine w_box (flMsg _) fun iB1 eB1 B1 => ?_
 refine w_fadr ?_
 refine w_ld (c := .sc (.string m.fTopic)) B1 (Nat.le_of_ble_eq_true rfl) rfl ?_
 refine lw_sc rfl (vcons (Vw_sc _ _) vnil) (implTopicF (n + 0) (by omega) _ m.fTopic (by assumption)) ?_
 apply w_merge ((vTopicOk m.fTopic) && (decide ((m.fBody.size : Int) ≤ 40)))
 ·intro b2 q2
  refine w_split ((vTopicOk m.fTopic)) (fun h2 => ?_) (fun h2 => ?_)
  ·refine w_gT h2 ?_
   refine w_fadr ?_
   refine w_gT h2 ?_
   refine w_ld (c := bytesC m.fBody) B1 (Nat.le_of_ble_eq_true rfl) rfl ?_
   refine w_gT h2 ?_
   refine w_len ?_
   refine w_gT h2 ?_
   refine w_bin (v := .sc (.bool (decide ((m.fBody.size : Int) ≤ 40)))) (fun k => rfl) ?_
   refine w_pTb h2 (mAT q2 h2) ?_
   exact rfl
  ·refine w_gF h2 ?_
   refine w_gF h2 ?_
   refine w_gF h2 ?_
   refine w_gF h2 ?_
   refine w_pFb h2 (mAF q2 h2) ?_
   exact rfl
 intro b2 q2
 apply w_merge (b2 && (vIn m.fQos 0 2))
 ·intro b3 q3
  refine w_split (b2) (fun h3 => ?_) (fun h3 => ?_)
  ·refine w_gT h3 ?_
   refine w_fadr ?_
   refine w_gT h3 ?_
   refine w_ld (c := .sc (.int .i64 m.fQos)) B1 (Nat.le_of_ble_eq_true rfl) rfl ?_
   refine w_gT h3 ?_
   refine lw_sc rfl (vcons (Vw_sc _ _) vnil) (isQosF (n + 3) _ m.fQos) ?_
   refine w_pTb h3 (mAT q3 h3) ?_
   exact rfl
  ·refine w_gF h3 ?_
   refine w_gF h3 ?_
   refine w_gF h3 ?_
   refine w_pFb h3 (mAF q3 h3) ?_
   exact rfl
 intro b3 q3
 exact w_endB (by subst_vars; first | rfl | (simp only [vMsgOk]; done) | (simp only [vMsgOk]; ac_rfl))
def vQueueOk (l : List MsgV) : Bool := l.all vMsgOk && decide ((l.length : Int) ≤ 6)
theorem all_go {α : Type} (p : α → Bool) (e : Bool) (go : List α → List α → Bool) (h0 : ∀ pre, go pre [] = e) (h1 : ∀ pre x r, go pre (x :: r) = (p x && go (pre ++ [x]) r)) : ∀ (r pre : List α), go pre r = (r.all p && e)
 | [], pre => by rw [h0]; simp
 | x :: r, pre => by rw [h1, all_go p e go h0 h1 r, List.all_cons, Bool.and_assoc]
def goQs (l : List MsgV) : List MsgV → List MsgV → Bool
 | pre, [] => decide ((l.length : Int) ≤ 6)
 | pre, x :: r => vMsgOk x && goQs l (pre ++ [x]) r
theorem specQ_loop (n : Nat) (hn : 1048576 < n) (ty : Nat) (l : List MsgV) (hlen : l.length ≤ 1048576) (hsl : ∀ x ∈ l, x.fTopic.size ≤ 1048576) : ∀ (r pre : List MsgV) (m : Nat) (H : Heap), l = pre ++ r → r.length < m → f120_l0 (PR (n + 6) AV) (n + 6) (fun x H => ownTree ti0 E0.tp ty H x) m (rowsC encMsg l) (.sc (.int .i64 pre.length)) H = some (.sc (.bool (goQs l pre r)))
 | [], pre, m + 1, H, hl, hm => by
  have hlt : decide ((pre.length : Int) < (l.length : Int)) = false := by
   rw [hl]
   simp
  show (PR (n + 6) AV).len _ _ = _
  simp only [PR_box, PR_new, PR_fadr, PR_load, PR_store, PR_bin, PR_binB, PR_binA, PR_un, PR_cond, PR_guard, PR_pick, PR_len, PR_lenS, PR_iadr, PR_idx, PR_slice, PR_sliceS, PR_newSl, PR_fill, PR_make, PR_app, PR_cvI, PR_cvBS]
  refine w_len ?_
  refine w_bin (v := .sc (.bool (decide ((pre.length : Int) < (l.length : Int))))) (fun k => rfl) ?_
  refine w_cF hlt ?_
  refine w_len ?_
  refine w_bin (v := .sc (.bool (decide ((l.length : Int) ≤ 6)))) (fun k => rfl) ?_
  exact w_endB (by first | (subst_vars; simp only [goQs]; simp_all; done) | (subst_vars; unfold goQs; simp_all))
 | x :: r, pre, m + 1, H, hl, hm => by
  have hpl : pre.length < l.length := by rw [hl]; simp
  have hlt : decide ((pre.length : Int) < (l.length : Int)) = true := by simpa using hpl
  have hmem : x ∈ l := by rw [hl]; simp
  have hix : IntKind.i64.wrap ((pre.length : Int) + 1) = (((pre ++ [x]).length : Nat) : Int) := by
   rw [wrap64 _ (by omega) (by omega), List.length_append, List.length_singleton]
   rfl
  try have hs : x.fTopic.size ≤ 1048576 := hsl x (by assumption)
  show (PR (n + 6) AV).len _ _ = _
  simp only [PR_box, PR_new, PR_fadr, PR_load, PR_store, PR_bin, PR_binB, PR_binA, PR_un, PR_cond, PR_guard, PR_pick, PR_len, PR_lenS, PR_iadr, PR_idx, PR_slice, PR_sliceS, PR_newSl, PR_fill, PR_make, PR_app, PR_cvI, PR_cvBS]
  refine w_len ?_
  refine w_bin (v := .sc (.bool (decide ((pre.length : Int) < (l.length : Int))))) (fun k => rfl) ?_
  refine w_cT hlt ?_
  refine w_iadrE lenMsg (by decide) hl ?_
  refine w_ldA_rp (ds := encMsg x) (Nat.le_of_ble_eq_true rfl) rfl ?_
  refine lw_sc rfl (vcons (Vw_agg _ (flMsg _)) vnil) (specMsgF (n + 0) (by omega) _ x (by assumption)) ?_
  refine w_not ?_
  refine w_split ((vMsgOk x)) (fun h1 => ?_) (fun h1 => ?_)
  ·refine w_cF (nF h1) ?_
   refine w_bin (v := .sc (.int .i64 (IntKind.i64.wrap ((pre.length : Int) + 1)))) (fun k => rfl) ?_
   rw [hix]
   refine (specQ_loop n hn ty l hlen hsl r (pre ++ [x]) m _  (by rw [hl]; simp) (by simpa using hm)).trans (congrArg (fun b => some (AV.sc (Value.bool b))) ?_)
   first | (subst_vars; simp only [goQs]; simp_all; done) | (subst_vars; unfold goQs; simp_all)
  ·refine w_cT (nT h1) ?_
   exact w_endB (by first | (subst_vars; simp only [goQs]; simp_all; done) | (subst_vars; unfold goQs; simp_all))
def goQi : List MsgV → List MsgV → Bool
 | pre, [] => true
 | pre, x :: r => vMsgOk x && goQi (pre ++ [x]) r
theorem implQ_loop (n : Nat) (hn : 1048576 < n) (ty : Nat) (l : List MsgV) (hlen : l.length ≤ 1048576) (hsl : ∀ x ∈ l, x.fTopic.size ≤ 1048576) : ∀ (r pre : List MsgV) (m : Nat) (H : Heap), l = pre ++ r → r.length < m → f150_l0 (PR (n + 6) AV) (n + 6) (fun x H => ownTree ti0 E0.tp ty H x) m (rowsC encMsg l) (.sc (.int .i64 (l.length : Int))) (.sc (.int .i64 pre.length)) H = some (.sc (.bool (goQi pre r)))
 | [], pre, m + 1, H, hl, hm => by
  have hlt : decide ((pre.length : Int) < (l.length : Int)) = false := by
   rw [hl]
   simp
  show (PR (n + 6) AV).bin _ _ _ _ = _
  simp only [PR_box, PR_new, PR_fadr, PR_load, PR_store, PR_bin, PR_binB, PR_binA, PR_un, PR_cond, PR_guard, PR_pick, PR_len, PR_lenS, PR_iadr, PR_idx, PR_slice, PR_sliceS, PR_newSl, PR_fill, PR_make, PR_app, PR_cvI, PR_cvBS]
  refine w_bin (v := .sc (.bool (decide ((pre.length : Int) < (l.length : Int))))) (fun k => rfl) ?_
  refine w_cF hlt ?_
  exact w_endB (by first | (subst_vars; simp only [goQi]; simp_all; done) | (subst_vars; unfold goQi; simp_all))
 | x :: r, pre, m + 1, H, hl, hm => by
  have hpl : pre.length < l.length := by rw [hl]; simp
  have hlt : decide ((pre.length : Int) < (l.length : Int)) = true := by simpa using hpl
  have hmem : x ∈ l := by rw [hl]; simp
  have hix : IntKind.i64.wrap ((pre.length : Int) + 1) = (((pre ++ [x]).length : Nat) : Int) := by
   rw [wrap64 _ (by omega) (by omega), List.length_append, List.length_singleton]
   rfl
  try have hs : x.fTopic.size ≤ 1048576 := hsl x (by assumption)
  show (PR (n + 6) AV).bin _ _ _ _ = _
  simp only [PR_box, PR_new, PR_fadr, PR_load, PR_store, PR_bin, PR_binB, PR_binA, PR_un, PR_cond, PR_guard, PR_pick, PR_len, PR_lenS, PR_iadr, PR_idx, PR_slice, PR_sliceS, PR_newSl, PR_fill, PR_make, PR_app, PR_cvI, PR_cvBS]
  refine w_bin (v := .sc (.bool (decide ((pre.length : Int) < (l.length : Int))))) (fun k => rfl) ?_
  refine w_cT hlt ?_
  refine w_iadrE lenMsg (by decide) hl ?_
  refine w_ldA_rp (ds := encMsg x) (Nat.le_of_ble_eq_true rfl) rfl ?_
  refine lw_put rfl (lenMsg _) (fl_leaf (flMsg _)) fun iB1 B1 => ?_
  refine w_ldA (ds := encMsg x) B1 (Nat.le_of_ble_eq_true rfl) rfl ?_
  refine lw_sc rfl (vcons (Vw_agg _ (flMsg _)) vnil) (implMsgF (n + 0) (by omega) _ x (by assumption)) ?_
  refine w_not ?_
  refine w_split ((vMsgOk x)) (fun h2 => ?_) (fun h2 => ?_)
  ·refine w_cF (nF h2) ?_
   refine w_bin (v := .sc (.int .i64 (IntKind.i64.wrap ((pre.length : Int) + 1)))) (fun k => rfl) ?_
   rw [hix]
   refine (implQ_loop n hn ty l hlen hsl r (pre ++ [x]) m _  (by rw [hl]; simp) (by simpa using hm)).trans (congrArg (fun b => some (AV.sc (Value.bool b))) ?_)
   first | (subst_vars; simp only [goQi]; simp_all; done) | (subst_vars; unfold goQi; simp_all)
  ·refine w_cT (nT h2) ?_
   exact w_endB (by first | (subst_vars; simp only [goQi]; simp_all; done) | (subst_vars; unfold goQi; simp_all))
theorem specQueueF (n : Nat) (hn : 1048576 < n) (ty : Nat) (l : List MsgV) (hlen : l.length ≤ 1048576) (hsl : ∀ x ∈ l, x.fTopic.size ≤ 1048576) : tree E0 (n + 7) ty 120 [rowsC encMsg l] = some (.sc (.bool (vQueueOk l))) := by
 rw [tree_def, f120_eq, f120]
 have key := specQ_loop n hn ty l hlen hsl l [] (n + 6) [] rfl (by omega)
 rw [all_go vMsgOk (decide ((l.length : Int) ≤ 6)) (goQs l) (fun _ => rfl) (fun _ _ _ => rfl) l []] at key
 exact key
theorem implMsgsF (n : Nat) (hn : 1048576 < n) (ty : Nat) (l : List MsgV) (hlen : l.length ≤ 1048576) (hsl : ∀ x ∈ l, x.fTopic.size ≤ 1048576) : tree E0 (n + 7) ty 150 [rowsC encMsg l] = some (.sc (.bool (l.all vMsgOk))) := by
 rw [tree_def, f150_eq, f150]
 simp only [PR_len]
 refine w_len ?_
 have key := implQ_loop n hn ty l hlen hsl l [] (n + 6) [] rfl (by omega)
 rw [all_go vMsgOk true goQi (fun _ => rfl) (fun _ _ _ => rfl) l [], Bool.and_true] at key
 exact key
theorem implQueueF (n : Nat) (hn : 1048576 < n) (ty : Nat) (l : List MsgV) (hlen : l.length ≤ 1048576) (hsl : ∀ x ∈ l, x.fTopic.size ≤ 1048576) : tree E0 (n + 8) ty 126 [rowsC encMsg l] = some (.sc (.bool (vQueueOk l))) := by
 rw [tree_def, f126_eq, f126]
 try simp only [PR_box, PR_new, PR_fadr, PR_load, PR_store, PR_bin, PR_binB, PR_binA, PR_un, PR_cond, PR_guard, PR_pick, PR_len, PR_lenS, PR_iadr, PR_idx, PR_slice, PR_sliceS, PR_newSl, PR_fill, PR_make, PR_app, PR_cvI, PR_cvBS]
 refine w_len ?_
 refine w_bin (v := .sc (.bool (decide ((l.length : Int) ≤ 6)))) (fun k => rfl) ?_
 apply w_merge ((decide ((l.length : Int) ≤ 6)) && (l.all vMsgOk))
 ·intro b1 q1
  refine w_split ((decide ((l.length : Int) ≤ 6))) (fun h1 => ?_) (fun h1 => ?_)
  ·refine w_gT h1 ?_
   refine w_gT h1 ?_
   refine lw_sc rfl (vcons (Vw_ro _ _ _) vnil) (implMsgsF (n + 0) (by omega) _ l (by assumption) (by assumption)) ?_
   refine w_pTb h1 (mAT q1 h1) ?_
   exact rfl
  ·refine w_gF h1 ?_
   refine w_gF h1 ?_
   refine w_pFb h1 (mAF q1 h1) ?_
   exact rfl
 intro b1 q1
 exact w_endB (by subst_vars; unfold vQueueOk; rw [Bool.and_comm])
theorem queue_hyp (l : List MsgV) (b0 : wtL wtMsg l ≤ 1048576) : l.length ≤ 1048576 ∧ ∀ x ∈ l, x.fTopic.size ≤ 1048576 := by
 have h1 := wtL_eq wtMsg l
 refine ⟨by omega, fun x hx => ?_⟩
 have h2 := wtS_mem (wt := wtMsg) hx
 have h3 : wtMsg x = x.fTopic.size + (x.fBody.size + 0) := rfl
 omega
theorem specF_QueueOk (n : Nat) (hn : 1048576 < n) (l : List MsgV) (k0 : l.length ≤ 9223372036854775807 ∧ ∀ z ∈ l, okMsg z) (b0 : wtL wtMsg l ≤ 1048576) : tree E0 (n + 8) 4 120 [rowsC encMsg l] = some (.sc (.bool (vQueueOk l))) := specQueueF (n + 1) (by omega) _ l (queue_hyp l b0).1 (queue_hyp l b0).2
theorem implF_QueueOk (n : Nat) (hn : 1048576 < n) (l : List MsgV) (k0 : l.length ≤ 9223372036854775807 ∧ ∀ z ∈ l, okMsg z) (b0 : wtL wtMsg l ≤ 1048576) : tree E0 (n + 8) 4 126 [rowsC encMsg l] = some (.sc (.bool (vQueueOk l))) := implQueueF n hn _ l (queue_hyp l b0).1 (queue_hyp l b0).2
def vSt (x : FlightV) : Bool := if x.fM.fQos == 1 then x.fSt == 1 else (x.fM.fQos == 2 && (x.fSt == 2 || x.fSt == 3))
theorem l13StF (n : Nat) (ty : Nat) (x : FlightV) : tree E0 (n + 1) ty 119 [.agg (encFlight x)] = some (.sc (.bool (vSt x))) := by
 rw [tree_def, f119_eq, f119]
 try simp only [PR_box, PR_new, PR_fadr, PR_load, PR_store, PR_bin, PR_binB, PR_binA, PR_un, PR_cond, PR_guard, PR_pick, PR_len, PR_lenS, PR_iadr, PR_idx, PR_slice, PR_sliceS, PR_newSl, PR_fill, PR_make, PR_app, PR_cvI, PR_cvBS]
 refine w_box (flFlight _) fun iB1 eB1 B1 => ?_
 refine w_fadr ?_
 refine w_fadr ?_
 refine w_ld (c := .sc (.int .i64 x.fM.fQos)) B1 (Nat.le_of_ble_eq_true rfl) rfl ?_
 refine w_bin (v := .sc (.bool (x.fM.fQos == 1))) (fun k => rfl) ?_
 refine w_split ((x.fM.fQos == 1)) (fun h2 => ?_) (fun h2 => ?_)
 ·refine w_cT h2 ?_
  refine w_fadr ?_
  refine w_ld (c := .sc (.int .i64 x.fSt)) B1 (Nat.le_of_ble_eq_true rfl) rfl ?_
  refine w_bin (v := .sc (.bool (x.fSt == 1))) (fun k => rfl) ?_
  exact w_endB (by subst_vars; unfold vSt; simp_all)
 ·refine w_cF h2 ?_
  refine w_fadr ?_
  refine w_fadr ?_
  refine w_ld (c := .sc (.int .i64 x.fM.fQos)) B1 (Nat.le_of_ble_eq_true rfl) rfl ?_
  refine w_bin (v := .sc (.bool (x.fM.fQos == 2))) (fun k => rfl) ?_
  apply w_merge ((x.fM.fQos == 2) && ((x.fSt == 2) || (x.fSt == 3)))
  ·intro b3 q3
   refine w_split ((x.fM.fQos == 2)) (fun h3 => ?_) (fun h3 => ?_)
   ·refine w_gT h3 ?_
    refine w_fadr ?_
    refine w_gT h3 ?_
    refine w_ld (c := .sc (.int .i64 x.fSt)) B1 (Nat.le_of_ble_eq_true rfl) rfl ?_
    refine w_gT h3 ?_
    refine w_bin (v := .sc (.bool (x.fSt == 2))) (fun k => rfl) ?_
    refine w_gT h3 ?_
    apply w_merge ((x.fSt == 2) || (x.fSt == 3))
    ·intro b4 q4
     refine w_split ((x.fSt == 2)) (fun h4 => ?_) (fun h4 => ?_)
     ·refine w_hF h4 ?_
      refine w_hF h4 ?_
      refine w_hF h4 ?_
      refine w_gT h3 ?_
      refine w_pTb h4 (mOT q4 h4) ?_
      exact rfl
     ·refine w_hT h4 ?_
      refine w_fadr ?_
      refine w_hT h4 ?_
      refine w_ld (c := .sc (.int .i64 x.fSt)) B1 (Nat.le_of_ble_eq_true rfl) rfl ?_
      refine w_hT h4 ?_
      refine w_bin (v := .sc (.bool (x.fSt == 3))) (fun k => rfl) ?_
      refine w_gT h3 ?_
      refine w_pFb h4 (mOF q4 h4) ?_
      exact rfl
    intro b4 q4
    refine w_pTb h3 (by subst q4; exact mAT q3 h3) ?_
    exact rfl
   ·refine w_gF h3 ?_
    refine w_gF h3 ?_
    refine w_gF h3 ?_
    refine w_gF h3 ?_
    refine w_u ?_
    refine w_u ?_
    refine w_u ?_
    refine w_gF h3 ?_
    refine w_pFb h3 (mAF q3 h3) ?_
    exact rfl
  intro b3 q3
  exact w_endB (by subst_vars; unfold vSt; simp_all)
theorem isIdF (n : Nat) (ty : Nat) (x : Int) : tree E0 (n + 2) ty 123 [.sc (.int .i64 x)] = some (.sc (.bool (vIn x 1 65535))) := by
 rw [tree_def, f123_eq, f123]
 try simp only [PR_box, PR_new, PR_fadr, PR_load, PR_store, PR_bin, PR_binB, PR_binA, PR_un, PR_cond, PR_guard, PR_pick, PR_len, PR_lenS, PR_iadr, PR_idx, PR_slice, PR_sliceS, PR_newSl, PR_fill, PR_make, PR_app, PR_cvI, PR_cvBS]
 refine lw_sc rfl (vcons (Vw_sc _ _) (vcons (Vw_sc _ _) (vcons (Vw_sc _ _) vnil))) (withinF (n + 0) _ x 1 65535) ?_
 exact w_endB (by first | (simp_all [vIn, vTopicOk, vMsgOk, vQueueOk, vSt]; done) | (rw [Bool.eq_iff_iff]; simp [vIn, vTopicOk, vMsgOk, vQueueOk, vSt] at *; omega))
theorem isWordF (n : Nat) (ty : Nat) (x : Int) : tree E0 (n + 2) ty 125 [.sc (.int .i64 x)] = some (.sc (.bool (vIn x 0 65535))) := by
 rw [tree_def, f125_eq, f125]
 try simp only [PR_box, PR_new, PR_fadr, PR_load, PR_store, PR_bin, PR_binB, PR_binA, PR_un, PR_cond, PR_guard, PR_pick, PR_len, PR_lenS, PR_iadr, PR_idx, PR_slice, PR_sliceS, PR_newSl, PR_fill, PR_make, PR_app, PR_cvI, PR_cvBS]
 refine lw_sc rfl (vcons (Vw_sc _ _) (vcons (Vw_sc _ _) (vcons (Vw_sc _ _) vnil))) (withinF (n + 0) _ x 0 65535) ?_
 exact w_endB (by first | (simp_all [vIn, vTopicOk, vMsgOk, vQueueOk, vSt]; done) | (rw [Bool.eq_iff_iff]; simp [vIn, vTopicOk, vMsgOk, vQueueOk, vSt] at *; omega))
def flPre (pre : List FlightV) (x : FlightV) : Bool := pre.any fun y => y.fId == x.fId
def flGo : List FlightV → List FlightV → Bool
 | pre, [] => true
 | pre, x :: r => (vIn x.fId 1 65535 && vMsgOk x.fM && vSt x && !(flPre pre x)) && flGo (pre ++ [x]) r
def vOutOk (o : OutV) : Bool := flGo [] o.fFl && (vIn o.fLast 0 65535 && decide ((o.fFl.length : Int) ≤ 3) && vQueueOk o.fQ)
theorem fl_hyp (o : OutV) (b0 : wtOut o ≤ 1048576) : (o.fFl.length ≤ 1048576 ∧ ∀ x ∈ o.fFl, x.fM.fTopic.size ≤ 1048576) ∧ (o.fQ.length ≤ 1048576 ∧ ∀ x ∈ o.fQ, x.fTopic.size ≤ 1048576) := by
 have e : wtOut o = wtL wtFlight o.fFl + (wtL wtMsg o.fQ + 0) := rfl
 refine ⟨?_, queue_hyp _ (by omega)⟩
 have h1 := wtL_eq wtFlight o.fFl
 refine ⟨by omega, fun x hx => ?_⟩
 have h2 := wtS_mem (wt := wtFlight) hx
 have h3 : wtFlight x = x.fM.fTopic.size + (x.fM.fBody.size + 0) + 0 := rfl
 omega
theorem specFl_in (n : Nat) (ty : Nat) (o : OutV) (hlen : o.fFl.length ≤ 1048576) (x : FlightV) (g0 : AV → AV → Heap → Option AV) (kk : AV → Heap → Option AV) (i1 : Nat) (H : Heap) (B : H[i1]? = some ⟨encOut o, true, true⟩) (pre r : List FlightV) (hl : o.fFl = pre ++ x :: r) : ∀ (s p2 : List FlightV) (m : Nat), pre = p2 ++ s → s.length < m →
  f67_l1 (PR n AV) n g0 kk m (.ptr i1 0) (.sc (.int .i64 pre.length)) (.sc (.int .i64 p2.length)) H = if flPre s x then kk (.sc (.bool false)) H else g0 (.ptr i1 0) (.sc (.int .i64 (IntKind.i64.wrap ((pre.length : Int) + 1)))) H
 | [], p2, m + 1, he, hm => by
  rw [List.append_nil] at he
  subst he
  show (PR n AV).bin _ _ _ _ = _
  simp only [PR_bin, PR_cond, PR_fadr, PR_load, PR_iadr]
  rw [lss_nat, cond_b, if_neg (by simp)]
  rfl
 | y :: s, p2, m + 1, he, hm => by
  have hlt : p2.length < pre.length := by rw [he]; simp
  have hpl : pre.length < o.fFl.length := by rw [hl]; simp
  show (PR n AV).bin _ _ _ _ = _
  simp only [PR_bin, PR_cond, PR_fadr, PR_load, PR_iadr]
  rw [lss_nat, cond_b, if_pos (by simpa using hlt)]
  refine w_fadr ?_
  refine w_ld (c := rowsC encFlight o.fFl) B (Nat.le_of_ble_eq_true rfl) rfl ?_
  refine w_iadrE (pre := p2) (x := y) (t := s ++ x :: r) lenFlight (by decide) (by rw [hl, he]; simp) ?_
  refine w_fadr_rp ?_
  refine w_ld_rp (c := .sc (.int .i64 y.fId)) rfl ?_
  refine w_fadr ?_
  refine w_ld (c := rowsC encFlight o.fFl) B (Nat.le_of_ble_eq_true rfl) rfl ?_
  refine w_iadrE (pre := pre) (x := x) (t := r) lenFlight (by decide) hl ?_
  refine w_fadr_rp ?_
  refine w_ld_rp (c := .sc (.int .i64 x.fId)) rfl ?_
  refine w_bin (v := .sc (.bool (y.fId == x.fId))) (fun k => rfl) ?_
  have ih := specFl_in n ty o hlen x g0 kk i1 H B pre r hl s (p2 ++ [y]) m (by rw [he]; simp) (by simpa using hm)
  rw [List.length_append, List.length_singleton] at ih
  have hany : flPre (y :: s) x = (y.fId == x.fId || flPre s x) := rfl
  rw [hany]
  cases hid : (y.fId == x.fId)
  ·refine w_cF rfl ?_
   rw [inc_nat _ _ (by omega), ih]
   rfl
  ·exact w_cT rfl rfl
theorem idx_pre (p : FlightV → Bool) : ∀ (pre r : List FlightV) (x : FlightV) (i : Nat), p x = true → idxOf p (pre ++ x :: r) i = if pre.any p then idxOf p pre i else ((i + pre.length : Nat) : Int)
 | [], r, x, i, h => by simp [idxOf, h]
 | y :: pre, r, x, i, h => by
  rw [List.cons_append, idxOf, idx_pre p pre r x (i + 1) h, idxOf, List.any_cons]
  cases hy : p y
  ·simp only [Bool.false_eq_true, if_false, Bool.false_or, List.length_cons]
   rw [show i + 1 + pre.length = i + (pre.length + 1) by omega]
  ·simp
theorem idx_lt (p : FlightV → Bool) : ∀ (pre : List FlightV) (i : Nat), pre.any p = true → idxOf p pre i < ((i + pre.length : Nat) : Int)
 | [], i, h => by simp at h
 | y :: pre, i, h => by
  rw [idxOf]
  cases hy : p y
  ·rw [List.any_cons, hy, Bool.false_or] at h
   have := idx_lt p pre (i + 1) h
   simp only [Bool.false_eq_true, if_false, List.length_cons]
   omega
  ·simp only [if_true, List.length_cons]
   omega
theorem idx_self (o : OutV) (pre r : List FlightV) (x : FlightV) (hl : o.fFl = pre ++ x :: r) : (idxOf (fun y : FlightV => y.fId == x.fId) o.fFl 0 != (pre.length : Int)) = flPre pre x := by
 rw [hl, idx_pre _ pre r x 0 (by simp)]
 unfold flPre
 cases h : pre.any fun y => y.fId == x.fId
 ·simp
 ·have := idx_lt _ pre 0 h
  simp only [if_true]
  rw [bne_iff_ne.2]
  simp at this
  omega
theorem flightClo (n : Nat) (ty : Nat) (x : FlightV) (z : Int) : tree E0 (n + 1) ty 137 [.agg (encFlight x), .rp [.sc (.int .i64 z)]] = some (.sc (.bool (x.fId == z))) := by
 rw [tree_def, f137_eq, f137]
 simp only [PR_box, PR_fadr, PR_load, PR_bin]
 refine w_box (flFlight _) fun i e hi => ?_
 refine w_fadr ?_
 refine w_ld (c := .sc (.int .i64 x.fId)) hi (Nat.le_of_ble_eq_true rfl) rfl ?_
 refine w_ld_rp (c := .sc (.int .i64 z)) rfl ?_
 rw [eql64]
 rfl
theorem flightIndexF (n : Nat) (hn : 1048576 < n) (ty : Nat) (l : List FlightV) (z : Int) (hl : l.length ≤ 1048576) : tree E0 (n + 2) ty 136 [rowsC encFlight l, .fn 137 [] [.rp [.sc (.int .i64 z)]]] = some (.sc (.int .i64 (idxOf (fun y : FlightV => y.fId == z) l 0))) := by
 rw [tree_def, f136_eq, f136]
 simp only [PR_len]
 rw [len_ro]
 have key := index_loop (n := n + 1) (tb := 4) (g := 137) (caps := [.rp [.sc (.int .i64 z)]]) encFlight (fun y : FlightV => y.fId == z) (fun x H => ownTree ti0 E0.tp ty H x) lenFlight (by decide) flFlight rfl (fun H => rfl) (fun m a b c i H => f136_l0 (PR (n + 1) AV) (n + 1) (fun x H => ownTree ti0 E0.tp ty H x) m a b c i H) (fun m a b c i H => rfl) l (fun x _ => flightClo n _ x z) hl [] l [] (n + 1) rfl (by omega)
 simp only [List.length_nil, Int.natCast_zero] at key
 rw [key]
 rfl
theorem flightAtF (n : Nat) (hn : 1048576 < n) (ty : Nat) (l : List FlightV) (z : Int) (hl : l.length ≤ 1048576) : tree E0 (n + 3) ty 97 [rowsC encFlight l, .sc (.int .i64 z)] = some (.sc (.int .i64 (idxOf (fun y : FlightV => y.fId == z) l 0))) := by
 rw [tree_def, f97_eq, f97]
 simp only [PR_box]
 refine w_boxS rfl fun i2 e2 hi2 => ?_
 refine lw_sc rfl (vcons (Vw_ro _ _ _) (vcons (Vw_fn1 hi2 rfl) vnil)) (flightIndexF n hn _ l z hl) ?_
 rfl
theorem stEq (x : FlightV) (hv : vMsgOk x.fM = true) : vSt x = !((x.fM.fQos == 0) || (!((x.fM.fQos == 1) == (x.fSt == 1)) || !(vIn x.fSt 1 3))) := by
 have hq : 0 ≤ x.fM.fQos ∧ x.fM.fQos ≤ 2 := by
  unfold vMsgOk vIn at hv
  simp at hv
  exact hv.2
 unfold vSt vIn
 obtain h | h | h : x.fM.fQos = 0 ∨ x.fM.fQos = 1 ∨ x.fM.fQos = 2 := by omega
 ·simp [h]
 ·rw [h, Bool.eq_iff_iff]
  simp
  intro h1
  omega
 ·rw [h, Bool.eq_iff_iff]
  simp
  omega
def goOs (o : OutV) : List FlightV → List FlightV → Bool
 | pre, [] => vIn o.fLast 0 65535 && decide ((o.fFl.length : Int) ≤ 3) && vQueueOk o.fQ
 | pre, x :: r => (vIn x.fId 1 65535 && vMsgOk x.fM && vSt x && !(flPre pre x)) && goOs o (pre ++ [x]) r
theorem specFl_loop (n : Nat) (hn : 1048576 < n) (ty : Nat) (o : OutV) (hlen : o.fFl.length ≤ 1048576) (hsl : ∀ x ∈ o.fFl, x.fM.fTopic.size ≤ 1048576) (hqn : o.fQ.length ≤ 1048576) (hqs : ∀ x ∈ o.fQ, x.fTopic.size ≤ 1048576) (i1 : Nat) : ∀ (r pre : List FlightV) (m : Nat) (H : Heap) (B : H[i1]? = some ⟨encOut o, true, true⟩), o.fFl = pre ++ r → r.length < m → f67_l0 (PR (n + 8) AV) (n + 8) (fun x H => ownTree ti0 E0.tp ty H x) m (.ptr i1 0) (.sc (.int .i64 pre.length)) H = some (.sc (.bool (goOs o pre r)))
 | [], pre, m + 1, H, B, hl, hm => by
  have hlt : decide ((pre.length : Int) < (o.fFl.length : Int)) = false := by
   rw [hl]
   simp
  show (PR (n + 8) AV).fadr _ _ _ = _
  simp only [PR_box, PR_new, PR_fadr, PR_load, PR_store, PR_bin, PR_binB, PR_binA, PR_un, PR_cond, PR_guard, PR_pick, PR_len, PR_lenS, PR_iadr, PR_idx, PR_slice, PR_sliceS, PR_newSl, PR_fill, PR_make, PR_app, PR_cvI, PR_cvBS]
  refine w_fadr ?_
  refine w_ld (c := rowsC encFlight o.fFl) B (Nat.le_of_ble_eq_true rfl) rfl ?_
  refine w_len ?_
  refine w_bin (v := .sc (.bool (decide ((pre.length : Int) < (o.fFl.length : Int))))) (fun k => rfl) ?_
  refine w_cF hlt ?_
  refine w_fadr ?_
  refine w_ld (c := .sc (.int .i64 o.fLast)) B (Nat.le_of_ble_eq_true rfl) rfl ?_
  refine lw_sc rfl (vcons (Vw_sc _ _) (vcons (Vw_sc _ _) (vcons (Vw_sc _ _) vnil))) (l1InF (n + 7) _ o.fLast 0 65535) ?_
  apply w_merge ((vIn o.fLast 0 65535) && (decide ((o.fFl.length : Int) ≤ 3)))
  ·intro b1 q1
   refine w_split ((vIn o.fLast 0 65535)) (fun h1 => ?_) (fun h1 => ?_)
   ·refine w_gT h1 ?_
    refine w_fadr ?_
    refine w_gT h1 ?_
    refine w_ld (c := rowsC encFlight o.fFl) B (Nat.le_of_ble_eq_true rfl) rfl ?_
    refine w_gT h1 ?_
    refine w_len ?_
    refine w_gT h1 ?_
    refine w_bin (v := .sc (.bool (decide ((o.fFl.length : Int) ≤ 3)))) (fun k => rfl) ?_
    refine w_pTb h1 (mAT q1 h1) ?_
    exact rfl
   ·refine w_gF h1 ?_
    refine w_gF h1 ?_
    refine w_gF h1 ?_
    refine w_gF h1 ?_
    refine w_pFb h1 (mAF q1 h1) ?_
    exact rfl
  intro b1 q1
  apply w_merge (b1 && (vQueueOk o.fQ))
  ·intro b2 q2
   refine w_split (b1) (fun h2 => ?_) (fun h2 => ?_)
   ·refine w_gT h2 ?_
    refine w_fadr ?_
    refine w_gT h2 ?_
    refine w_ld (c := rowsC encMsg o.fQ) B (Nat.le_of_ble_eq_true rfl) rfl ?_
    refine w_gT h2 ?_
    refine lw_sc rfl (vcons (Vw_ro _ _ _) vnil) (specQueueF (n + 1) (by omega) _ o.fQ (by assumption) (by assumption)) ?_
    refine w_pTb h2 (mAT q2 h2) ?_
    exact rfl
   ·refine w_gF h2 ?_
    refine w_gF h2 ?_
    refine w_gF h2 ?_
    refine w_pFb h2 (mAF q2 h2) ?_
    exact rfl
  intro b2 q2
  exact w_endB (by (try clear ih); (try clear hlt); (try clear hix); (try clear hm); (try clear hmem); (try clear hpl); (try clear hsl); (try clear hlen); (try clear hqn); (try clear hqs); (try clear hs); (try clear B); (try clear B1); (try clear B2); (try clear hl); subst_vars; rw [goOs]; first | done | (cases h1 : vIn x.fId 1 65535 <;> cases h2 : vMsgOk x.fM <;> cases h3 : vSt x <;> cases h4 : flPre pre x <;> simp [h1, h2, h3, h4] at *))
 | x :: r, pre, m + 1, H, B, hl, hm => by
  have hpl : pre.length < o.fFl.length := by rw [hl]; simp
  have hlt : decide ((pre.length : Int) < (o.fFl.length : Int)) = true := by simpa using hpl
  have hmem : x ∈ o.fFl := by rw [hl]; simp
  have hix : IntKind.i64.wrap ((pre.length : Int) + 1) = (((pre ++ [x]).length : Nat) : Int) := by
   rw [wrap64 _ (by omega) (by omega), List.length_append, List.length_singleton]
   rfl
  try have hs : x.fM.fTopic.size ≤ 1048576 := hsl x (by assumption)
  show (PR (n + 8) AV).fadr _ _ _ = _
  simp only [PR_box, PR_new, PR_fadr, PR_load, PR_store, PR_bin, PR_binB, PR_binA, PR_un, PR_cond, PR_guard, PR_pick, PR_len, PR_lenS, PR_iadr, PR_idx, PR_slice, PR_sliceS, PR_newSl, PR_fill, PR_make, PR_app, PR_cvI, PR_cvBS]
  refine w_fadr ?_
  refine w_ld (c := rowsC encFlight o.fFl) B (Nat.le_of_ble_eq_true rfl) rfl ?_
  refine w_len ?_
  refine w_bin (v := .sc (.bool (decide ((pre.length : Int) < (o.fFl.length : Int))))) (fun k => rfl) ?_
  refine w_cT hlt ?_
  refine w_fadr ?_
  refine w_ld (c := rowsC encFlight o.fFl) B (Nat.le_of_ble_eq_true rfl) rfl ?_
  refine w_iadrE lenFlight (by decide) hl ?_
  refine w_fadr_rp ?_
  refine w_ld_rp (c := .sc (.int .i64 x.fId)) rfl ?_
  refine lw_sc rfl (vcons (Vw_sc _ _) (vcons (Vw_sc _ _) (vcons (Vw_sc _ _) vnil))) (l1InF (n + 7) _ x.fId 1 65535) ?_
  refine w_not ?_
  apply w_merge ((!(vIn x.fId 1 65535)) || (!(vMsgOk x.fM)))
  ·intro b1 q1
   refine w_split ((vIn x.fId 1 65535)) (fun h1 => ?_) (fun h1 => ?_)
   ·refine w_hT (nF h1) ?_
    refine w_fadr ?_
    refine w_hT (nF h1) ?_
    refine w_ld (c := rowsC encFlight o.fFl) B (Nat.le_of_ble_eq_true rfl) rfl ?_
    refine w_hT (nF h1) ?_
    refine w_hT (nF h1) ?_
    refine w_iadrE lenFlight (by decide) hl ?_
    refine w_hT (nF h1) ?_
    refine w_fadr_rp ?_
    refine w_hT (nF h1) ?_
    refine w_ldA_rp (ds := encMsg x.fM) (Nat.le_of_ble_eq_true rfl) rfl ?_
    refine w_hT (nF h1) ?_
    refine lw_sc rfl (vcons (Vw_agg _ (flMsg _)) vnil) (specMsgF (n + 2) (by omega) _ x.fM (by assumption)) ?_
    refine w_hT (nF h1) ?_
    refine w_not ?_
    refine w_pFb (nF h1) (mOF q1 (nF h1)) ?_
    exact rfl
   ·refine w_hF (nT h1) ?_
    refine w_hF (nT h1) ?_
    refine w_hF (nT h1) ?_
    refine w_hF (nT h1) ?_
    refine w_hF (nT h1) ?_
    refine w_hF (nT h1) ?_
    refine w_hF (nT h1) ?_
    refine w_hF (nT h1) ?_
    refine w_pTb (nT h1) (mOT q1 (nT h1)) ?_
    exact rfl
  intro b1 q1
  apply w_merge (b1 || (!(vSt x)))
  ·intro b2 q2
   refine w_split (b1) (fun h2 => ?_) (fun h2 => ?_)
   ·refine w_hF h2 ?_
    refine w_hF h2 ?_
    refine w_hF h2 ?_
    refine w_hF h2 ?_
    refine w_hF h2 ?_
    refine w_hF h2 ?_
    refine w_hF h2 ?_
    refine w_pTb h2 (mOT q2 h2) ?_
    exact rfl
   ·refine w_hT h2 ?_
    refine w_fadr ?_
    refine w_hT h2 ?_
    refine w_ld (c := rowsC encFlight o.fFl) B (Nat.le_of_ble_eq_true rfl) rfl ?_
    refine w_hT h2 ?_
    refine w_hT h2 ?_
    refine w_iadrE lenFlight (by decide) hl ?_
    refine w_hT h2 ?_
    refine w_ldA_rp (ds := encFlight x) (Nat.le_of_ble_eq_true rfl) rfl ?_
    refine w_hT h2 ?_
    refine lw_sc rfl (vcons (Vw_agg _ (flFlight _)) vnil) (l13StF (n + 7) _ x) ?_
    refine w_hT h2 ?_
    refine w_not ?_
    refine w_pFb h2 (mOF q2 h2) ?_
    exact rfl
  intro b2 q2
  refine w_split (b2) (fun h3 => ?_) (fun h3 => ?_)
  ·refine w_cT h3 ?_
   exact w_endB (by (try clear ih); (try clear hlt); (try clear hix); (try clear hm); (try clear hmem); (try clear hpl); (try clear hsl); (try clear hlen); (try clear hqn); (try clear hqs); (try clear hs); (try clear B); (try clear B1); (try clear B2); (try clear hl); subst_vars; rw [goOs]; first | done | (cases h1 : vIn x.fId 1 65535 <;> cases h2 : vMsgOk x.fM <;> cases h3 : vSt x <;> cases h4 : flPre pre x <;> simp [h1, h2, h3, h4] at *))
  ·refine w_cF h3 ?_
   have key := fun g0 kk => specFl_in (n + 8) ty o hlen x g0 kk i1 H B pre r hl pre [] (n + 8) rfl (by omega)
   simp only [List.length_nil, Int.natCast_zero] at key
   rw [key]
   clear key
   cases hpre : flPre pre x
   ·simp only [Bool.false_eq_true, if_false]
    rw [hix]
    refine (specFl_loop n hn ty o hlen hsl hqn hqs i1 r (pre ++ [x]) m _ B (by rw [hl]; simp) (by simpa using hm)).trans (congrArg (fun b => some (AV.sc (Value.bool b))) ?_)
    (try clear ih); (try clear hlt); (try clear hix); (try clear hm); (try clear hmem); (try clear hpl); (try clear hsl); (try clear hlen); (try clear hqn); (try clear hqs); (try clear hs); (try clear B); (try clear B1); (try clear B2); (try clear hl); subst_vars; rw [goOs]; first | done | (cases h1 : vIn x.fId 1 65535 <;> cases h2 : vMsgOk x.fM <;> cases h3 : vSt x <;> cases h4 : flPre pre x <;> simp [h1, h2, h3, h4] at *)
   ·simp only [if_true]
    exact w_endB (by (try clear ih); (try clear hlt); (try clear hix); (try clear hm); (try clear hmem); (try clear hpl); (try clear hsl); (try clear hlen); (try clear hqn); (try clear hqs); (try clear hs); (try clear B); (try clear B1); (try clear B2); (try clear hl); subst_vars; rw [goOs]; first | done | (cases h1 : vIn x.fId 1 65535 <;> cases h2 : vMsgOk x.fM <;> cases h3 : vSt x <;> cases h4 : flPre pre x <;> simp [h1, h2, h3, h4] at *))
theorem implFl_loop (n : Nat) (hn : 1048576 < n) (ty : Nat) (o : OutV) (hlen : o.fFl.length ≤ 1048576) (hsl : ∀ x ∈ o.fFl, x.fM.fTopic.size ≤ 1048576) (hqn : o.fQ.length ≤ 1048576) (hqs : ∀ x ∈ o.fQ, x.fTopic.size ≤ 1048576) (i1 : Nat) : ∀ (r pre : List FlightV) (m : Nat) (H : Heap) (B : H[i1]? = some ⟨encOut o, true, true⟩), o.fFl = pre ++ r → r.length < m → f72_l0 (PR (n + 9) AV) (n + 9) (fun x H => ownTree ti0 E0.tp ty H x) m (.ptr i1 0) (rowsC encFlight o.fFl) (.sc (.int .i64 (o.fFl.length : Int))) (.sc (.int .i64 pre.length)) H = some (.sc (.bool (goOs o pre r)))
 | [], pre, m + 1, H, B, hl, hm => by
  have hlt : decide ((pre.length : Int) < (o.fFl.length : Int)) = false := by
   rw [hl]
   simp
  show (PR (n + 9) AV).bin _ _ _ _ = _
  simp only [PR_box, PR_new, PR_fadr, PR_load, PR_store, PR_bin, PR_binB, PR_binA, PR_un, PR_cond, PR_guard, PR_pick, PR_len, PR_lenS, PR_iadr, PR_idx, PR_slice, PR_sliceS, PR_newSl, PR_fill, PR_make, PR_app, PR_cvI, PR_cvBS]
  refine w_bin (v := .sc (.bool (decide ((pre.length : Int) < (o.fFl.length : Int))))) (fun k => rfl) ?_
  refine w_cF hlt ?_
  refine w_fadr ?_
  refine w_ld (c := .sc (.int .i64 o.fLast)) B (Nat.le_of_ble_eq_true rfl) rfl ?_
  refine lw_sc rfl (vcons (Vw_sc _ _) vnil) (isWordF (n + 7) _ o.fLast) ?_
  apply w_merge ((vIn o.fLast 0 65535) && (decide ((o.fFl.length : Int) ≤ 3)))
  ·intro b1 q1
   refine w_split ((vIn o.fLast 0 65535)) (fun h1 => ?_) (fun h1 => ?_)
   ·refine w_gT h1 ?_
    refine w_fadr ?_
    refine w_gT h1 ?_
    refine w_ld (c := rowsC encFlight o.fFl) B (Nat.le_of_ble_eq_true rfl) rfl ?_
    refine w_gT h1 ?_
    refine w_len ?_
    refine w_gT h1 ?_
    refine w_bin (v := .sc (.bool (decide ((o.fFl.length : Int) ≤ 3)))) (fun k => rfl) ?_
    refine w_pTb h1 (mAT q1 h1) ?_
    exact rfl
   ·refine w_gF h1 ?_
    refine w_gF h1 ?_
    refine w_gF h1 ?_
    refine w_gF h1 ?_
    refine w_pFb h1 (mAF q1 h1) ?_
    exact rfl
  intro b1 q1
  apply w_merge (b1 && (vQueueOk o.fQ))
  ·intro b2 q2
   refine w_split (b1) (fun h2 => ?_) (fun h2 => ?_)
   ·refine w_gT h2 ?_
    refine w_fadr ?_
    refine w_gT h2 ?_
    refine w_ld (c := rowsC encMsg o.fQ) B (Nat.le_of_ble_eq_true rfl) rfl ?_
    refine w_gT h2 ?_
    refine lw_sc rfl (vcons (Vw_ro _ _ _) vnil) (implQueueF (n + 1) (by omega) _ o.fQ (by assumption) (by assumption)) ?_
    refine w_pTb h2 (mAT q2 h2) ?_
    exact rfl
   ·refine w_gF h2 ?_
    refine w_gF h2 ?_
    refine w_gF h2 ?_
    refine w_pFb h2 (mAF q2 h2) ?_
    exact rfl
  intro b2 q2
  exact w_endB (by (try clear ih); (try clear hlt); (try clear hix); (try clear hm); (try clear hmem); (try clear hpl); (try clear hsl); (try clear hlen); (try clear hqn); (try clear hqs); (try clear hs); (try clear B); (try clear B1); (try clear B2); (try clear hl); subst_vars; rw [goOs]; first | done | (cases h2 : vMsgOk x.fM <;> (try rw [stEq x h2]) <;> cases h1 : vIn x.fId 1 65535 <;> cases h4 : flPre pre x <;> cases h5 : (x.fM.fQos == 0) <;> cases h6 : ((x.fM.fQos == 1) == (x.fSt == 1)) <;> cases h7 : vIn x.fSt 1 3 <;> simp [h1, h2, h4, h5, h6, h7] at * <;> contradiction))
 | x :: r, pre, m + 1, H, B, hl, hm => by
  have hpl : pre.length < o.fFl.length := by rw [hl]; simp
  have hlt : decide ((pre.length : Int) < (o.fFl.length : Int)) = true := by simpa using hpl
  have hmem : x ∈ o.fFl := by rw [hl]; simp
  have hix : IntKind.i64.wrap ((pre.length : Int) + 1) = (((pre ++ [x]).length : Nat) : Int) := by
   rw [wrap64 _ (by omega) (by omega), List.length_append, List.length_singleton]
   rfl
  try have hs : x.fM.fTopic.size ≤ 1048576 := hsl x (by assumption)
  try have hidx := idx_self o pre r x hl
  show (PR (n + 9) AV).bin _ _ _ _ = _
  simp only [PR_box, PR_new, PR_fadr, PR_load, PR_store, PR_bin, PR_binB, PR_binA, PR_un, PR_cond, PR_guard, PR_pick, PR_len, PR_lenS, PR_iadr, PR_idx, PR_slice, PR_sliceS, PR_newSl, PR_fill, PR_make, PR_app, PR_cvI, PR_cvBS]
  refine w_bin (v := .sc (.bool (decide ((pre.length : Int) < (o.fFl.length : Int))))) (fun k => rfl) ?_
  refine w_cT hlt ?_
  refine w_iadrE lenFlight (by decide) hl ?_
  refine w_ldA_rp (ds := encFlight x) (Nat.le_of_ble_eq_true rfl) rfl ?_
  refine lw_put rfl (lenFlight _) (fl_leaf (flFlight _)) fun iB1 B1 => ?_
  replace B := blk_grow B [⟨encFlight x, true, true⟩]
  refine w_fadr ?_
  refine w_ld (c := .sc (.int .i64 x.fId)) B1 (Nat.le_of_ble_eq_true rfl) rfl ?_
  refine lw_sc rfl (vcons (Vw_sc _ _) vnil) (isIdF (n + 7) _ x.fId) ?_
  refine w_not ?_
  apply w_merge ((!(vIn x.fId 1 65535)) || ((idxOf (fun y : FlightV => y.fId == x.fId) o.fFl 0) != (pre.length : Int)))
  ·intro b2 q2
   refine w_split ((vIn x.fId 1 65535)) (fun h2 => ?_) (fun h2 => ?_)
   ·refine w_hT (nF h2) ?_
    refine w_fadr ?_
    refine w_hT (nF h2) ?_
    refine w_ld (c := rowsC encFlight o.fFl) B (Nat.le_of_ble_eq_true rfl) rfl ?_
    refine w_hT (nF h2) ?_
    refine w_fadr ?_
    refine w_hT (nF h2) ?_
    refine w_ld (c := .sc (.int .i64 x.fId)) B1 (Nat.le_of_ble_eq_true rfl) rfl ?_
    refine w_hT (nF h2) ?_
    refine lw_sc rfl (vcons (Vw_ro _ _ _) (vcons (Vw_sc _ _) vnil)) (flightAtF (n + 6) (by omega) _ o.fFl x.fId hlen) ?_
    refine w_hT (nF h2) ?_
    refine w_hT (nF h2) ?_
    refine w_bin (v := .sc (.bool ((idxOf (fun y : FlightV => y.fId == x.fId) o.fFl 0) != (pre.length : Int)))) (fun k => rfl) ?_
    refine w_pFb (nF h2) (mOF q2 (nF h2)) ?_
    exact rfl
   ·refine w_hF (nT h2) ?_
    refine w_hF (nT h2) ?_
    refine w_hF (nT h2) ?_
    refine w_hF (nT h2) ?_
    refine w_hF (nT h2) ?_
    refine w_hF (nT h2) ?_
    refine w_hF (nT h2) ?_
    refine w_pTb (nT h2) (mOT q2 (nT h2)) ?_
    exact rfl
  intro b2 q2
  apply w_merge (b2 || (!(vMsgOk x.fM)))
  ·intro b3 q3
   refine w_split (b2) (fun h3 => ?_) (fun h3 => ?_)
   ·refine w_hF h3 ?_
    refine w_hF h3 ?_
    refine w_hF h3 ?_
    refine w_hF h3 ?_
    refine w_pTb h3 (mOT q3 h3) ?_
    exact rfl
   ·refine w_hT h3 ?_
    refine w_fadr ?_
    refine w_hT h3 ?_
    refine w_ldA (ds := encMsg x.fM) B1 (Nat.le_of_ble_eq_true rfl) rfl ?_
    refine w_hT h3 ?_
    refine lw_sc rfl (vcons (Vw_agg _ (flMsg _)) vnil) (implMsgF (n + 3) (by omega) _ x.fM (by assumption)) ?_
    refine w_hT h3 ?_
    refine w_not ?_
    refine w_pFb h3 (mOF q3 h3) ?_
    exact rfl
  intro b3 q3
  refine w_split (b3) (fun h4 => ?_) (fun h4 => ?_)
  ·refine w_cT h4 ?_
   exact w_endB (by (try clear ih); (try clear hlt); (try clear hix); (try clear hm); (try clear hmem); (try clear hpl); (try clear hsl); (try clear hlen); (try clear hqn); (try clear hqs); (try clear hs); (try clear B); (try clear B1); (try clear B2); (try clear hl); subst_vars; rw [goOs]; first | done | (cases h2 : vMsgOk x.fM <;> (try rw [stEq x h2]) <;> cases h1 : vIn x.fId 1 65535 <;> cases h4 : flPre pre x <;> cases h5 : (x.fM.fQos == 0) <;> cases h6 : ((x.fM.fQos == 1) == (x.fSt == 1)) <;> cases h7 : vIn x.fSt 1 3 <;> simp [h1, h2, h4, h5, h6, h7] at * <;> contradiction))
  ·refine w_cF h4 ?_
   refine w_fadr ?_
   refine w_fadr ?_
   refine w_ld (c := .sc (.int .i64 x.fM.fQos)) B1 (Nat.le_of_ble_eq_true rfl) rfl ?_
   refine w_bin (v := .sc (.bool (x.fM.fQos == 0))) (fun k => rfl) ?_
   apply w_merge ((x.fM.fQos == 0) || (!((x.fM.fQos == 1) == (x.fSt == 1))))
   ·intro b5 q5
    refine w_split ((x.fM.fQos == 0)) (fun h5 => ?_) (fun h5 => ?_)
    ·refine w_hF h5 ?_
     refine w_hF h5 ?_
     refine w_hF h5 ?_
     refine w_hF h5 ?_
     refine w_hF h5 ?_
     refine w_hF h5 ?_
     refine w_hF h5 ?_
     refine w_hF h5 ?_
     refine w_pTb h5 (mOT q5 h5) ?_
     exact rfl
    ·refine w_hT h5 ?_
     refine w_fadr ?_
     refine w_hT h5 ?_
     refine w_fadr ?_
     refine w_hT h5 ?_
     refine w_ld (c := .sc (.int .i64 x.fM.fQos)) B1 (Nat.le_of_ble_eq_true rfl) rfl ?_
     refine w_hT h5 ?_
     refine w_bin (v := .sc (.bool (x.fM.fQos == 1))) (fun k => rfl) ?_
     refine w_hT h5 ?_
     refine w_fadr ?_
     refine w_hT h5 ?_
     refine w_ld (c := .sc (.int .i64 x.fSt)) B1 (Nat.le_of_ble_eq_true rfl) rfl ?_
     refine w_hT h5 ?_
     refine w_bin (v := .sc (.bool (x.fSt == 1))) (fun k => rfl) ?_
     refine w_hT h5 ?_
     refine w_binB (v := .sc (.bool (!((x.fM.fQos == 1) == (x.fSt == 1))))) (fun k => rfl) ?_
     refine w_pFb h5 (mOF q5 h5) ?_
     exact rfl
   intro b5 q5
   apply w_merge (b5 || (!(vIn x.fSt 1 3)))
   ·intro b6 q6
    refine w_split (b5) (fun h6 => ?_) (fun h6 => ?_)
    ·refine w_hF h6 ?_
     refine w_hF h6 ?_
     refine w_hF h6 ?_
     refine w_hF h6 ?_
     refine w_pTb h6 (mOT q6 h6) ?_
     exact rfl
    ·refine w_hT h6 ?_
     refine w_fadr ?_
     refine w_hT h6 ?_
     refine w_ld (c := .sc (.int .i64 x.fSt)) B1 (Nat.le_of_ble_eq_true rfl) rfl ?_
     refine w_hT h6 ?_
     refine lw_sc rfl (vcons (Vw_sc _ _) (vcons (Vw_sc _ _) (vcons (Vw_sc _ _) vnil))) (withinF (n + 8) _ x.fSt 1 3) ?_
     refine w_hT h6 ?_
     refine w_not ?_
     refine w_pFb h6 (mOF q6 h6) ?_
     exact rfl
   intro b6 q6
   refine w_split (b6) (fun h7 => ?_) (fun h7 => ?_)
   ·refine w_cT h7 ?_
    exact w_endB (by (try clear ih); (try clear hlt); (try clear hix); (try clear hm); (try clear hmem); (try clear hpl); (try clear hsl); (try clear hlen); (try clear hqn); (try clear hqs); (try clear hs); (try clear B); (try clear B1); (try clear B2); (try clear hl); subst_vars; rw [goOs]; first | done | (cases h2 : vMsgOk x.fM <;> (try rw [stEq x h2]) <;> cases h1 : vIn x.fId 1 65535 <;> cases h4 : flPre pre x <;> cases h5 : (x.fM.fQos == 0) <;> cases h6 : ((x.fM.fQos == 1) == (x.fSt == 1)) <;> cases h7 : vIn x.fSt 1 3 <;> simp [h1, h2, h4, h5, h6, h7] at * <;> contradiction))
   ·refine w_cF h7 ?_
    refine w_bin (v := .sc (.int .i64 (IntKind.i64.wrap ((pre.length : Int) + 1)))) (fun k => rfl) ?_
    rw [hix]
    refine (implFl_loop n hn ty o hlen hsl hqn hqs i1 r (pre ++ [x]) m _ B (by rw [hl]; simp) (by simpa using hm)).trans (congrArg (fun b => some (AV.sc (Value.bool b))) ?_)
    (try clear ih); (try clear hlt); (try clear hix); (try clear hm); (try clear hmem); (try clear hpl); (try clear hsl); (try clear hlen); (try clear hqn); (try clear hqs); (try clear hs); (try clear B); (try clear B1); (try clear B2); (try clear hl); subst_vars; rw [goOs]; first | done | (cases h2 : vMsgOk x.fM <;> (try rw [stEq x h2]) <;> cases h1 : vIn x.fId 1 65535 <;> cases h4 : flPre pre x <;> cases h5 : (x.fM.fQos == 0) <;> cases h6 : ((x.fM.fQos == 1) == (x.fSt == 1)) <;> cases h7 : vIn x.fSt 1 3 <;> simp [h1, h2, h4, h5, h6, h7] at * <;> contradiction)
theorem goOs_go (o : OutV) : ∀ (r pre : List FlightV), goOs o pre r = (flGo pre r && (vIn o.fLast 0 65535 && decide ((o.fFl.length : Int) ≤ 3) && vQueueOk o.fQ))
 | [], pre => by rw [goOs, flGo, Bool.true_and]
 | x :: r, pre => by
  rw [goOs, flGo, goOs_go o r]
  simp only [Bool.and_assoc]
def msgD : MsgV := ⟨⟨#[]⟩, ⟨#[]⟩, 0, false⟩
theorem w_iadrH {α β : Type} {r : Option β} {w : Nat} {enc : α → List AV} {l : List α} {d : α} {K : AV → Option β} (hw : ∀ x, (enc x).length = w) (h0 : 0 < w) (hl : 0 < l.length) (h : K (.rp (enc (l.headD d) ++ (l.tail.map enc).flatten)) = r) : pIadr w (rowsC enc l) (.sc (.int .i64 0)) (fun t => K t) = r := by
 refine w_iadr0 hw h0 hl fun x t e => ?_
 subst e
 exact h
theorem specOutF (n : Nat) (hn : 1048576 < n) (ty : Nat) (o : OutV) (b0 : wtOut o ≤ 1048576) : tree E0 (n + 10) ty 67 [.agg (encOut o)] = some (.sc (.bool (vOutOk o))) := by
 obtain ⟨⟨h1, h2⟩, h3, h4⟩ := fl_hyp o b0
 rw [tree_def, f67_eq, f67]
 simp only [PR_box]
 refine w_box (flOut _) fun i e hi => ?_
 have key := specFl_loop (n + 1) (by omega) ty o h1 h2 h3 h4 i o.fFl [] (n + 9) _ hi rfl (by omega)
 rw [goOs_go] at key
 exact key
theorem implOutF (n : Nat) (hn : 1048576 < n) (ty : Nat) (o : OutV) (b0 : wtOut o ≤ 1048576) : tree E0 (n + 10) ty 72 [.agg (encOut o)] = some (.sc (.bool (vOutOk o))) := by
 obtain ⟨⟨h1, h2⟩, h3, h4⟩ := fl_hyp o b0
 rw [tree_def, f72_eq, f72]
 simp only [PR_box, PR_fadr, PR_load, PR_len]
 refine w_box (flOut _) fun i e hi => ?_
 refine w_fadr ?_
 refine w_ld (c := rowsC encFlight o.fFl) hi (Nat.le_of_ble_eq_true rfl) rfl ?_
 refine w_len ?_
 have key := implFl_loop n hn ty o h1 h2 h3 h4 i o.fFl [] (n + 9) _ hi rfl (by omega)
 rw [goOs_go] at key
 exact key
theorem specF_OutOk (n : Nat) (hn : 1048576 < n) (o : OutV) (k0 : okOut o) (b0 : wtOut o ≤ 1048576) : tree E0 (n + 10) 4 67 [.agg (encOut o)] = some (.sc (.bool (vOutOk o))) := specOutF n hn _ o b0
theorem implF_OutOk (n : Nat) (hn : 1048576 < n) (o : OutV) (k0 : okOut o) (b0 : wtOut o ≤ 1048576) : tree E0 (n + 10) 4 72 [.agg (encOut o)] = some (.sc (.bool (vOutOk o))) := implOutF n hn _ o b0
end Go.Proofs.YtejjggnchdldoaaGreatDoor.Abs
set_option linter.unusedVariables false
set_option linter.unusedSimpArgs false
set_option maxRecDepth 100000
namespace Go.Proofs.YtejjggnchdldoaaGreatDoor.Abs
open Go
variable {β : Type} {n : Nat} {r : Option β}
theorem app_bytes (s : ByteArray) (hs : s.size ≤ 140737488355328) (H : Heap) (K : AV → Heap → Option β) : pApp 1 1 .nl (bytesC s) H K = K (.sl H.length 0 s.size 1) (H ++ [⟨bytesAV s, true, true⟩]) := by
 have e1 : content H 1 (bytesC s) = some (bytesAV s) := by
  show (if (bytesAV s).length = s.size * 1 then some (bytesAV s) else none) = _
  rw [if_pos (by rw [bytesAV_len]; omega)]
 have e2 : content H 1 .nl = some [] := rfl
 have e3 : lenA (bytesC s) = some s.size := rfl
 simp only [pApp, lenA, e1, e2, kill, Option.bind_some, e3]
 rw [if_pos (by omega), if_pos (bytesAV_leaf s)]
 simp only [pNewSl, Nat.zero_add, List.nil_append]
theorem own_bytes {H : Heap} {id d : Nat} {s : ByteArray} (h : H[id]? = some ⟨bytesAV s, true, true⟩) : ownT ti0 E0.tp H (d + 2) 43 (.sl id 0 s.size 1) = some (bytesC s, [id]) := by
 rw [ownT_sl]
 have ha : isApp H id = true := by simp only [isApp, h]
 have hr : rdCells H id 0 (s.size * 1) = some (bytesAV s) := by
  have hl := bytesAV_len s
  simp only [rdCells, h, if_true, Nat.zero_add, Nat.mul_one, hl, Nat.le_refl, List.drop_zero]
  rw [← hl, List.take_length]
 obtain ⟨i, j, h1, h2, h3, h4⟩ := tyByteS
 simp only [h1, h2, Option.bind_some, h3, if_true, ha, hr]
 have ho := ownL_sc (ti := ti0) (tp := E0.tp) (H := H) (d := d) (List.replicate s.size j.cty).flatten (bv s) (by rw [bv_len]; simp [h4])
 rw [bytesAV_eq, ho, Option.bind_some, ← bytesAV_eq]
theorem joined1F (n : Nat) (hn : 1 < n) (s : ByteArray) (hs : s.size ≤ 1048576) : tree E0 (n + 1) 43 128 [.ro 1 [bytesC s]] = some (bytesC s) := by
 rw [tree_def, f128_eq, f128]
 simp only [PR_len]
 refine w_len ?_
 obtain ⟨m, rfl⟩ : ∃ m, n = m + 2 := ⟨n - 2, by omega⟩
 rw [f128_l0]
 simp only [PR_bin, PR_cond, PR_iadr, PR_load, PR_app]
 refine w_bin (v := .sc (.bool true)) (fun k => rfl) ?_
 refine w_cT rfl ?_
 have e1 : ∀ K : AV → Option AV, pIadr 1 (.ro 1 [bytesC s]) (.sc (.int .i64 0)) K = K (.rp [bytesC s]) := fun K => iadr_ro 1 1 [bytesC s] 0 K (by decide) (by simp)
 rw [e1, ld1_rp, app_bytes s (by omega)]
 refine w_bin (v := .sc (.int .i64 1)) (fun k => rfl) ?_
 rw [f128_l0]
 simp only [PR_bin, PR_cond]
 refine w_bin (v := .sc (.bool false)) (fun k => rfl) ?_
 refine w_cF rfl ?_
 rw [ownTree, own_bytes (d := 6) (s := s) rfl]
 rfl
theorem own_msg {H : Heap} {id d : Nat} {m : MsgV} (h : H[id]? = some ⟨bytesAV m.fBody, true, true⟩) : ownL (ownT ti0 E0.tp H (d + 2)) ctyMsg [.sc (.string m.fTopic), .sl id 0 m.fBody.size 1, .sc (.int .i64 m.fQos), .sc (.bool m.fRetain)] = some (encMsg m, [id]) := by
 have hb := own_bytes (d := d) h
 simp only [ctyMsg, ownL, ownT_sc, hb, Option.bind_some, List.nil_append, List.append_nil]
 rfl
theorem own_aggMsg {H : Heap} {id : Nat} {m : MsgV} (h : H[id]? = some ⟨bytesAV m.fBody, true, true⟩) : ownTree ti0 E0.tp 49 H (.agg [.sc (.string m.fTopic), .sl id 0 m.fBody.size 1, .sc (.int .i64 m.fQos), .sc (.bool m.fRetain)]) = some (.agg (encMsg m)) := by
 obtain ⟨i, hi, hc⟩ := tyMsg
 rw [ownTree, ownT_agg, hi, Option.bind_some, hc, own_msg (d := 5) h]
 rfl
end Go.Proofs.YtejjggnchdldoaaGreatDoor.Abs
set_option linter.unusedVariables false
set_option linter.unusedSimpArgs false
namespace Go.Proofs.YtejjggnchdldoaaGreatDoor.Abs
open Go
section
variable {ti : Nat → Option TI} {tp : Nat → Option (List Nat)} {H : Heap}
theorem ownL_dep {d d' : Nat} (hd : ∀ ty x t I, ownT ti tp H d ty x = some (t, I) → okW ti tp d' ty t → ownT ti tp H d' ty x = some (t, I)) : ∀ (ts : List Nat) (xs cells : List AV) (I : List Nat), ownL (ownT ti tp H d) ts xs = some (cells, I) → okLW (okW ti tp d') ts cells → ownL (ownT ti tp H d') ts xs = some (cells, I)
 | ts, [], cells, I, h, _ => by
  obtain ⟨rfl, e⟩ := ownL_nil h
  cases e
  rfl
 | [], _ :: _, _, _, h, _ => by simp [ownL] at h
 | t :: ts, x :: xs, cells, I, h, ho => by
  obtain ⟨a, b, h1, h2, e⟩ := ownL_cons h
  cases e
  have e1 := hd t x a.1 a.2 h1 ho.1
  have e2 := ownL_dep hd ts xs b.1 b.2 h2 ho.2
  rw [ownL, e1, Option.bind_some, e2]
  rfl
theorem own_dep : ∀ (d d' ty : Nat) (x t : AV) (I : List Nat), ownT ti tp H d ty x = some (t, I) → okW ti tp d' ty t → ownT ti tp H d' ty x = some (t, I)
 | 0, _, _, _, _, _, h, _ => by simp [ownT] at h
 | d + 1, 0, _, _, _, _, _, ho => by cases ho
 | d + 1, d' + 1, ty, x, t, I, h, ho => by
  cases x with
  | sc v =>
   obtain ⟨rfl, rfl⟩ : AV.sc v = t ∧ [] = I := by simpa [ownT] using h
   rfl
  | nl =>
   obtain ⟨rfl, rfl⟩ : AV.ro 0 [] = t ∧ [] = I := by simpa [ownT] using h
   rfl
  | sl id off n z =>
   rw [ownT_sl] at h ⊢
   simp only [Option.bind_eq_some_iff] at h
   obtain ⟨i, h1, j, h2, h3⟩ := h
   split at h3
   case isFalse => cases h3
   rename_i hz
   split at h3
   case isFalse => cases h3
   rename_i ha
   simp only [Option.bind_eq_some_iff] at h3
   obtain ⟨cs, h4, q, h5, h6⟩ := h3
   obtain ⟨rfl, rfl⟩ : AV.ro n q.1 = t ∧ id :: q.2 = I := by simpa using h6
   obtain ⟨i', j', g1, g2, g3, g4⟩ := ho
   rw [h1] at g1
   cases g1
   rw [h2] at g2
   cases g2
   have e3 := ownL_dep (fun ty x t I h ho => own_dep d d' ty x t I h ho) _ _ _ _ h5 g4
   rw [hz] at h4
   simp only [h1, h2, Option.bind_some, hz, if_true, ha, h4, e3]
  | agg cs =>
   rw [ownT_agg] at h ⊢
   simp only [Option.bind_eq_some_iff] at h
   obtain ⟨i, h1, q, h2, h3⟩ := h
   obtain ⟨rfl, rfl⟩ : AV.agg q.1 = t ∧ q.2 = I := by simpa using h3
   obtain ⟨i', g1, g2⟩ := ho
   rw [h1] at g1
   cases g1
   have e3 := ownL_dep (fun ty x t I h ho => own_dep d d' ty x t I h ho) _ _ _ _ h2 g2
   rw [h1, Option.bind_some, e3]
   rfl
  | tup cs =>
   rw [ownT_tup] at h ⊢
   simp only [Option.bind_eq_some_iff] at h
   obtain ⟨i, h1, q, h2, h3⟩ := h
   obtain ⟨rfl, rfl⟩ : AV.tup q.1 = t ∧ q.2 = I := by simpa using h3
   obtain ⟨i', g1, g2⟩ := ho
   rw [h1] at g1
   cases g1
   have e3 := ownL_dep (fun ty x t I h ho => own_dep d d' ty x t I h ho) _ _ _ _ h2 g2
   rw [h1, Option.bind_some, e3]
   rfl
  | _ => simp [ownT] at h
theorem ownL_view {d : Nat} (hd : ∀ ty x t I, ownT ti tp H d ty x = some (t, I) → viewV H d x = some t) : ∀ (ts : List Nat) (xs cells : List AV) (I : List Nat), ownL (ownT ti tp H d) ts xs = some (cells, I) → xs.mapM (viewV H d) = some cells
 | ts, [], cells, I, h => by
  obtain ⟨rfl, e⟩ := ownL_nil h
  cases e
  rfl
 | [], _ :: _, _, _, h => by simp [ownL] at h
 | t :: ts, x :: xs, cells, I, h => by
  obtain ⟨a, b, h1, h2, e⟩ := ownL_cons h
  cases e
  simp only [List.mapM_cons, hd t x a.1 a.2 h1, ownL_view hd ts xs b.1 b.2 h2, Option.pure_def, Option.bind_eq_bind, Option.bind_some]
theorem own_view : ∀ (d ty : Nat) (x t : AV) (I : List Nat), ownT ti tp H d ty x = some (t, I) → viewV H d x = some t
 | 0, _, _, _, _, h => by simp [ownT] at h
 | d + 1, ty, x, t, I, h => by
  have ih := ownL_view (ti := ti) (tp := tp) (H := H) (d := d) (fun ty x t I h => own_view d ty x t I h)
  cases x with
  | sc v =>
   obtain ⟨rfl, rfl⟩ : AV.sc v = t ∧ [] = I := by simpa [ownT] using h
   rfl
  | nl =>
   obtain ⟨rfl, rfl⟩ : AV.ro 0 [] = t ∧ [] = I := by simpa [ownT] using h
   rfl
  | sl id off n z =>
   rw [ownT_sl] at h
   simp only [Option.bind_eq_some_iff] at h
   obtain ⟨i, h1, j, h2, h3⟩ := h
   split at h3
   case isFalse => cases h3
   split at h3
   case isFalse => cases h3
   simp only [Option.bind_eq_some_iff] at h3
   obtain ⟨cs, h4, q, h5, h6⟩ := h3
   obtain ⟨rfl, rfl⟩ : AV.ro n q.1 = t ∧ id :: q.2 = I := by simpa using h6
   rw [viewV_sl, h4, Option.bind_some, ih _ _ _ _ h5]
   rfl
  | agg cs =>
   rw [ownT_agg] at h
   simp only [Option.bind_eq_some_iff] at h
   obtain ⟨i, h1, q, h2, h3⟩ := h
   obtain ⟨rfl, rfl⟩ : AV.agg q.1 = t ∧ q.2 = I := by simpa using h3
   rw [viewV_agg, ih _ _ _ _ h2]
   rfl
  | tup cs =>
   rw [ownT_tup] at h
   simp only [Option.bind_eq_some_iff] at h
   obtain ⟨i, h1, q, h2, h3⟩ := h
   obtain ⟨rfl, rfl⟩ : AV.tup q.1 = t ∧ q.2 = I := by simpa using h3
   show (cs.mapM (viewV H d)).bind _ = _
   rw [ih _ _ _ _ h2]
   rfl
  | _ => simp [ownT] at h
theorem okLW_mono {f g : Nat → AV → Prop} (hfg : ∀ t x, f t x → g t x) : ∀ {ts : List Nat} {cs : List AV}, okLW f ts cs → okLW g ts cs
 | [], [], h => h
 | _ :: ts, _ :: cs, h => ⟨hfg _ _ h.1, okLW_mono hfg h.2⟩
theorem okW_mono : ∀ (d ty : Nat) (x : AV), okW ti tp d ty x → okW ti tp (d + 1) ty x
 | 0, _, _, h => by cases h
 | d + 1, ty, x, h => by
  cases x with
  | sc v => trivial
  | ro n cells =>
   obtain ⟨i, j, h1, h2, h3, h4⟩ := h
   exact ⟨i, j, h1, h2, h3, okLW_mono (okW_mono d) h4⟩
  | agg cs =>
   obtain ⟨i, h1, h2⟩ := h
   exact ⟨i, h1, okLW_mono (okW_mono d) h2⟩
  | tup cs =>
   obtain ⟨i, h1, h2⟩ := h
   exact ⟨i, h1, okLW_mono (okW_mono d) h2⟩
  | _ => cases h
theorem okW_le {d d' ty : Nat} {x : AV} (h : okW ti tp d ty x) (hd : d ≤ d') : okW ti tp d' ty x := by
 induction hd with
 | refl => exact h
 | step _ ih => exact okW_mono _ _ _ ih
theorem okLW_le {d d' : Nat} {ts : List Nat} {cs : List AV} (h : okLW (okW ti tp d) ts cs) (hd : d ≤ d') : okLW (okW ti tp d') ts cs := okLW_mono (fun _ _ h => okW_le h hd) h
end
inductive Ck where
 | blk (id : Nat) (cs : List AV) (a : Bool)
 | own (x : AV) (ty : Nat) (t : AV)
 | shr (x : AV) (ty : Nat) (t : AV) (y : AV) (ty' : Nat) (t' : AV)
def CkOk (H : Heap) (c : Ck) (I : List Nat) : Prop :=
 match c with
 | .blk id cs a => I = [id] ∧ H[id]? = some ⟨cs, true, a⟩
 | .own x ty t => isLeaf x = true ∧ okW ti0 E0.tp 6 ty t ∧ ownT ti0 E0.tp H 6 ty x = some (t, I)
 | .shr x ty t y ty' t' => (isLeaf x = true ∧ okW ti0 E0.tp 6 ty t ∧ ownT ti0 E0.tp H 6 ty x = some (t, I)) ∧ okW ti0 E0.tp 6 ty' t' ∧ ∃ J, ownT ti0 E0.tp H 6 ty' y = some (t', J) ∧ ∀ i ∈ J, i ∈ I
def SepI (H : Heap) : List Ck → List Nat → Prop
 | [], I => I = []
 | c :: L, I => ∃ J R, I = J ++ R ∧ CkOk H c J ∧ SepI H L R
def Sep (H : Heap) (L : List Ck) : Prop := ∃ I, SepI H L I ∧ I.Nodup
inductive Pk : List Ck → Ck → List Ck → Prop
 | here {c : Ck} {L : List Ck} : Pk (c :: L) c L
 | there {a c : Ck} {L L' : List Ck} : Pk L c L' → Pk (a :: L) c (a :: L')
section
variable {H H' : Heap} {L L' L1 L2 : List Ck} {c : Ck} {I J R : List Nat}
theorem sep_nil : Sep H [] := ⟨[], rfl, List.nodup_nil⟩
theorem CkOk.frame (h : CkOk H c I) (hs : ∀ i ∈ I, H'[i]? = H[i]?) : CkOk H' c I := by
 cases c with
 | blk id cs a =>
  obtain ⟨rfl, h2⟩ := h
  exact ⟨rfl, by rw [hs id (by simp)]; exact h2⟩
 | own x ty t => exact ⟨h.1, h.2.1, own_frame 6 ty x _ h.2.2 hs⟩
 | shr x ty t y ty' t' =>
  obtain ⟨⟨h1, h2, h3⟩, h4, J, h5, h6⟩ := h
  exact ⟨⟨h1, h2, own_frame 6 ty x _ h3 hs⟩, h4, J, own_frame 6 ty' y _ h5 fun i hi => hs i (h6 i hi), h6⟩
theorem CkOk.lt (h : CkOk H c I) : ∀ i ∈ I, i < H.length := by
 cases c with
 | blk id cs a =>
  obtain ⟨rfl, h2⟩ := h
  intro i hi
  rw [List.mem_singleton] at hi
  subst hi
  exact (List.getElem?_eq_some_iff.1 h2).1
 | own x ty t => exact own_lt 6 ty x _ h.2.2
 | shr x ty t y ty' t' => exact own_lt 6 ty x _ h.1.2.2
theorem SepI.frame : ∀ {L : List Ck} {I : List Nat}, SepI H L I → (∀ i ∈ I, H'[i]? = H[i]?) → SepI H' L I
 | [], I, h, _ => h
 | c :: L, I, h, hs => by
  obtain ⟨J, R, rfl, h1, h2⟩ := h
  exact ⟨J, R, rfl, h1.frame fun i hi => hs i (List.mem_append_left _ hi), h2.frame fun i hi => hs i (List.mem_append_right _ hi)⟩
theorem SepI.lt : ∀ {L : List Ck} {I : List Nat}, SepI H L I → ∀ i ∈ I, i < H.length
 | [], I, h => by
  cases (show I = [] from h)
  intro i hi
  cases hi
 | c :: L, I, h => by
  obtain ⟨J, R, rfl, h1, h2⟩ := h
  intro i hi
  rcases List.mem_append.1 hi with hi | hi
  ·exact h1.lt i hi
  ·exact h2.lt i hi
theorem SepI.grow (h : SepI H L I) (X : List Blk) : SepI (H ++ X) L I := h.frame fun i hi => List.getElem?_append_left (h.lt i hi)
theorem Sep.grow (h : Sep H L) (X : List Blk) : Sep (H ++ X) L := by
 obtain ⟨I, h1, h2⟩ := h
 exact ⟨I, h1.grow X, h2⟩
theorem Sep.new {X : List Blk} (hs : Sep H L) (hc : CkOk (H ++ X) c J) (hJ : J.Nodup) (hge : ∀ i ∈ J, H.length ≤ i) : Sep (H ++ X) (c :: L) := by
 obtain ⟨I, h1, h2⟩ := hs
 refine ⟨J ++ I, ⟨J, I, rfl, hc, h1.grow X⟩, List.nodup_append.2 ⟨hJ, h2, fun a ha b hb e => ?_⟩⟩
 have := h1.lt b hb
 have := hge a ha
 omega
theorem Pk.sepI : ∀ {L L' : List Ck} {c : Ck} {I : List Nat}, Pk L c L' → SepI H L I → ∃ J R, CkOk H c J ∧ SepI H L' R ∧ I.Perm (J ++ R)
 | _, _, _, _, .here, h => by
  obtain ⟨J, R, rfl, h1, h2⟩ := h
  exact ⟨J, R, h1, h2, List.Perm.refl _⟩
 | _, _, _, _, .there p, h => by
  obtain ⟨J, R, rfl, h1, h2⟩ := h
  obtain ⟨J', R', g1, g2, g3⟩ := p.sepI h2
  refine ⟨J', J ++ R', g1, ⟨J, R', rfl, h1, g2⟩, ?_⟩
  refine (List.Perm.append_left J g3).trans ?_
  rw [← List.append_assoc, ← List.append_assoc]
  exact List.Perm.append_right R' List.perm_append_comm
theorem Sep.pick (h : Sep H L) (p : Pk L c L') : Sep H (c :: L') := by
 obtain ⟨I, h1, h2⟩ := h
 obtain ⟨J, R, g1, g2, g3⟩ := p.sepI h1
 exact ⟨J ++ R, ⟨J, R, rfl, g1, g2⟩, g3.nodup_iff.1 h2⟩
theorem Sep.tail (h : Sep H (c :: L)) : Sep H L := by
 obtain ⟨I, ⟨J, R, rfl, h1, h2⟩, h3⟩ := h
 exact ⟨R, h2, (List.nodup_append.1 h3).2.1⟩
theorem Sep.blk {id : Nat} {cs : List AV} {a : Bool} (h : Sep H L) (p : Pk L (.blk id cs a) L') : H[id]? = some ⟨cs, true, a⟩ := by
 obtain ⟨I, ⟨J, R, rfl, h1, h2⟩, h3⟩ := h.pick p
 exact h1.2
theorem Sep.put {id : Nat} {cs : List AV} {a : Bool} (h : Sep H L) (p : Pk L (.blk id cs a) L') (cs' : List AV) (a' : Bool) : Sep (H.set id ⟨cs', true, a'⟩) (.blk id cs' a' :: L') := by
 obtain ⟨I, ⟨J, R, rfl, ⟨rfl, h1⟩, h2⟩, h3⟩ := h.pick p
 have hn := (List.nodup_cons.1 h3).1
 have hl := (List.getElem?_eq_some_iff.1 h1).1
 refine ⟨[id] ++ R, ⟨[id], R, rfl, ⟨rfl, by rw [List.getElem?_set_self hl]⟩, h2.frame fun i hi => ?_⟩, h3⟩
 rw [List.getElem?_set_ne]
 rintro rfl
 exact hn hi
theorem Sep.own {x t : AV} {ty : Nat} (h : Sep H L) (p : Pk L (.own x ty t) L') : isLeaf x = true ∧ okW ti0 E0.tp 6 ty t ∧ ∃ I, ownT ti0 E0.tp H 6 ty x = some (t, I) ∧ I.Nodup := by
 obtain ⟨I, ⟨J, R, rfl, ⟨h0, h1, h1'⟩, h2⟩, h3⟩ := h.pick p
 exact ⟨h0, h1, J, h1', (List.nodup_append.1 h3).1⟩
theorem Sep.seen {x t y t' : AV} {ty ty' : Nat} (h : Sep H L) (p : Pk L (.shr x ty t y ty' t') L') : okW ti0 E0.tp 6 ty' t' ∧ ∃ I, ownT ti0 E0.tp H 6 ty' y = some (t', I) := by
 obtain ⟨I, ⟨J, R, rfl, ⟨h0, h1, J', h1', h3⟩, h2⟩, h4⟩ := h.pick p
 exact ⟨h1, J', h1'⟩
theorem Sep.forget {x t y t' : AV} {ty ty' : Nat} (h : Sep H L) (p : Pk L (.shr x ty t y ty' t') L') : Sep H (.own x ty t :: L') := by
 obtain ⟨I, ⟨J, R, rfl, ⟨h0, _⟩, h2⟩, h4⟩ := h.pick p
 exact ⟨J ++ R, ⟨J, R, rfl, h0, h2⟩, h4⟩
theorem Sep.nl {ty : Nat} (h : Sep H L) (hty : ∃ i j, ti0 ty = some i ∧ ti0 i.elem = some j) : Sep H (.own .nl ty (.ro 0 []) :: L) := by
 obtain ⟨I, h1, h2⟩ := h
 obtain ⟨i, j, e1, e2⟩ := hty
 exact ⟨[] ++ I, ⟨[], I, rfl, ⟨rfl, ⟨i, j, e1, e2, by simp, by simp [okLW]⟩, rfl⟩, h1⟩, h2⟩
inductive OwnR : List Ck → List AV → List Nat → List AV → List Ck → Prop
 | nil {L : List Ck} : OwnR L [] [] [] L
 | sc {L L' : List Ck} {v : Value} {raw cells : List AV} {ty : Nat} {tys : List Nat} : OwnR L raw tys cells L' → OwnR L (.sc v :: raw) (ty :: tys) (.sc v :: cells) L'
 | nl {L L' : List Ck} {raw cells : List AV} {ty : Nat} {tys : List Nat} : OwnR L raw tys cells L' → OwnR L (.nl :: raw) (ty :: tys) (.ro 0 [] :: cells) L'
 | own {L L1 L' : List Ck} {x t : AV} {raw cells : List AV} {ty : Nat} {tys : List Nat} : Pk L (.own x ty t) L1 → OwnR L1 raw tys cells L' → OwnR L (x :: raw) (ty :: tys) (t :: cells) L'
 | agg {L L1 L' : List Ck} {cs ts raw cells : List AV} {ty : Nat} {tys cty : List Nat} : (∃ i, ti0 ty = some i ∧ i.cty = cty) → OwnR L cs cty ts L1 → OwnR L1 raw tys cells L' → OwnR L (.agg cs :: raw) (ty :: tys) (.agg ts :: cells) L'
theorem OwnR.sound : ∀ {L L' : List Ck} {raw cells : List AV} {tys : List Nat} {I : List Nat}, OwnR L raw tys cells L' → SepI H L I → ∀ d, okLW (okW ti0 E0.tp d) tys cells → ∃ J R, ownL (ownT ti0 E0.tp H d) tys raw = some (cells, J) ∧ SepI H L' R ∧ I.Perm (J ++ R)
 | _, _, _, _, _, I, .nil, h, d, _ => ⟨[], I, rfl, h, List.Perm.refl _⟩
 | _, _, _, _, _, I, .sc q, h, d + 1, ho => by
  obtain ⟨J, R, h1, h2, h3⟩ := q.sound h (d + 1) ho.2
  refine ⟨J, R, ?_, h2, h3⟩
  rw [ownL, ownT_sc, Option.bind_some, h1]
  rfl
 | _, _, _, _, _, I, .nl q, h, d + 1, ho => by
  obtain ⟨J, R, h1, h2, h3⟩ := q.sound h (d + 1) ho.2
  refine ⟨J, R, ?_, h2, h3⟩
  rw [ownL, show ownT ti0 E0.tp H (d + 1) _ .nl = some (.ro 0 [], []) from rfl, Option.bind_some, h1]
  rfl
 | _, _, _, _, _, I, .own p q, h, d, ho => by
  obtain ⟨J1, R1, g1, g2, g3⟩ := p.sepI h
  obtain ⟨J, R, h1, h2, h3⟩ := q.sound g2 d ho.2
  have e := own_dep 6 d _ _ _ _ g1.2.2 ho.1
  refine ⟨J1 ++ J, R, ?_, h2, ?_⟩
  ·rw [ownL, e, Option.bind_some, h1]
   rfl
  ·refine g3.trans ?_
   rw [List.append_assoc]
   exact List.Perm.append_left J1 h3
 | _, _, _, _, _, I, .agg hty p q, h, d + 1, ho => by
  obtain ⟨i, e1, rfl⟩ := hty
  obtain ⟨i', g1, g2⟩ := ho.1
  rw [e1] at g1
  cases g1
  obtain ⟨J1, R1, a1, a2, a3⟩ := p.sound h (d + 1) (okLW_le g2 (Nat.le_succ d))
  obtain ⟨J, R, h1, h2, h3⟩ := q.sound a2 (d + 1) ho.2
  have a1' := ownL_dep (fun ty x t I h ho => own_dep (d + 1) d ty x t I h ho) _ _ _ _ a1 g2
  refine ⟨J1 ++ J, R, ?_, h2, ?_⟩
  ·rw [ownL, ownT_agg, e1, Option.bind_some, a1', Option.bind_some, Option.bind_some, h1]
   rfl
  ·refine a3.trans ?_
   rw [List.append_assoc]
   exact List.Perm.append_left J1 h3
 | _, _, _, _, _, I, .sc q, h, 0, ho => by cases ho.1
 | _, _, _, _, _, I, .nl q, h, 0, ho => by cases ho.1
 | _, _, _, _, _, I, .agg _ p q, h, 0, ho => by cases ho.1
end
end Go.Proofs.YtejjggnchdldoaaGreatDoor.Abs
