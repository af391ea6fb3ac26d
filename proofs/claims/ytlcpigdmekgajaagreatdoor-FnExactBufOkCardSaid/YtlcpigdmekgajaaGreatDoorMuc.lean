/- What the proof needs, part 3: a sound evaluator over trees, the program's functions on it, and what they come to. -/
import Derived.Test.YtlcpigdmekgajaaGreatDoorMub
import Derived.Lib.TrimUEq
import Derived.Lib.ValidLaws
import Derived.Lib.MapLaws
set_option linter.unusedVariables false
set_option linter.unusedSimpArgs false
namespace Go.Proofs.YtlcpigdmekgajaaGreatDoor.Abs
open _root_.Bool renaming false_eq_true → zaa, and_eq_true → zaf, not_true → zav, true_and → za1, eq_iff_iff → zb6
open _root_.Option renaming bind_eq_some_iff → zab, bind_some → zad, bind_eq_bind → zaM, getD_some → zaO, pure_def → zbc
open _root_.ByteArray renaming data_push → zbC
open _root_.List renaming getElem?_eq_some_iff → zae, length_append → zag, append_assoc → zah, getElem?_append_right → zai, replicate → zaj, nil_append → zak, getElem?_append_left → zal, length_singleton → zan, append_nil → zao, all_cons → zap, map_cons → zaq, length_cons → zar, length_nil → zat, mem_cons_of_mem → zay, mem_cons_self → zaz, cons_append → za0, map_append → za2, flatten_cons → za6, all_eq_true → za8, drop_eq_getElem_cons → zaA, map_nil → zaD, mem_append_left → zaF, mapM_cons → zaG, take_length → zaJ, mem_append_right → zaK, mem_append → zaR, drop_zero → zaS, take_of_length_le → zaV, drop_append_of_le_length → zaW, nodup_append → zba, getElem?_drop → zbb, drop_of_length_le → zbf, nodup_cons → zbh, length_map → zbi, mem_singleton → zbk, getElem?_cons_zero → zbl, length_eq_one_iff → zbp, getD_eq_getElem?_getD → zbq, getElem?_take_of_lt → zbw, replicate_succ → zb0, flatten_append → zb1, flatten_nil → zb2, Perm → zb7, any_cons → zb8, getElem?_set_ne → zb9, drop_drop → zbA, drop_length → zbB, mem_map → zbF, map_map → zbG
open _root_.Nat renaming le_refl → zam, zero_add → za3, le_trans → zaB, add_assoc → zaL, sub_self → zaP, add_zero → zaZ, mul_one → zbt, add_comm → zbE
open _root_.Array renaming ext' → zbe
open _root_.Int renaming natCast_zero → zaX, toNat_natCast → zbz
section
open Go
variable {β : Type} {n : Nat}
section
variable {k : KO β} {k1 : AV → Option β} {H : Ae}
@[simp] theorem A9 : (PR n β).load = D1 := rfl
@[simp] theorem Dz : (PR n β).store = Gb := rfl
@[simp] theorem Fk : (PR n β).new = Wm := rfl
@[simp] theorem Fx : (PR n β).box = Yc := rfl
@[simp] theorem Cz : (PR n β).newSl = Hz := rfl
@[simp] theorem Bx : (PR n β).fadr = G9 := rfl
@[simp] theorem Ajy : (PR n β).fld = AfY := rfl
@[simp] theorem Bw : (PR n β).iadr = Fv := rfl
@[simp] theorem Mi : (PR n β).idx = Aea := rfl
@[simp] theorem Gr : (PR n β).lenS = Vl := rfl
@[simp] theorem B3 : (PR n β).len = L9 := rfl
@[simp] theorem Ii : (PR n β).sliceS = Qd := rfl
@[simp] theorem G4 : (PR n β).slice = Q1 := rfl
@[simp] theorem D3 : (PR n β).app = K6 := rfl
@[simp] theorem Ae6 : (PR n β).appS = Vi := rfl
@[simp] theorem A5 : (PR n β).bin = En := rfl
@[simp] theorem Ik : (PR n β).binB = Ow := rfl
@[simp] theorem J5 : (PR n β).binA = Qc := rfl
@[simp] theorem D8 : (PR n β).un = pUn := rfl
@[simp] theorem Bv : (PR n β).pick = N2 := rfl
@[simp] theorem Dm : (PR n β).cvI = Z7 := rfl
@[simp] theorem Ajx : (PR n β).cvSS = AdZ := rfl
@[simp] theorem Gg : (PR n β).cvBS = Rr := rfl
@[simp] theorem Aaj : (PR n β).cvSB = Vj := rfl
@[simp] theorem Hr : (PR n β).extr = Vk := rfl
@[simp] theorem O3 : (PR n β).nil = AfZ := rfl
@[simp] theorem C2 : (PR n β).fill = fun a l k => (Ky a l).bind k := rfl
@[simp] theorem N9 : (PR n β).make = Vm := rfl
@[simp] theorem Bg : (PR n β).guard = Jg := rfl
@[simp] theorem Aw : (PR n β).cond = Gn := rfl
@[simp] theorem Ais : (PR n β).clear = Ts := rfl
@[simp] theorem Ajw : (PR n β).both = Ox := rfl
@[simp] theorem Acr : (PR n β).apart = Q0 := rfl
@[simp] theorem Ae7 : (PR n β).same = Rs := rfl
noncomputable def Gu (f : Nat) : Bool := E0.hm f || (E0.ext f).isSome
theorem Ye {f : Nat} (h : Gu f = false) : E0.hm f = false := by
 unfold Gu at h
 simp only [Bool.or_eq_false_iff] at h
 exact h.1
theorem Vn {f : Nat} (h : Gu f = false) : E0.ext f = none := by
 unfold Gu at h
 simp only [Bool.or_eq_false_iff] at h
 simpa using h.2
theorem J6 {ty : Nat} {f : FuncId} {args vs : List AV} {t : AV} (hh : Gu f = false) (hv : args.mapM (D5 H 8) = some vs) (ht : Di E0 n ty f vs = some t) :
  (PR n β).call ty (.fn f [] []) args H k = k (Dd A4 E0.tp H.length ty t).1 (H ++ (Dd A4 E0.tp H.length ty t).2) := by
 show M7 E0 (Ff E0 n) ty f ([] ++ args ++ []) H k = _
 simp only [M7, Vn hh, Ye hh, zak, zao, zaa, if_false, Xd, hv, zad]
 have ht : Q8 E0 (Ff E0 n) ty f vs = some t := ht
 rw [ht]
 rfl
theorem Yu {ty : Nat} {f : FuncId} {g : Nat → List AV → Option AV} {args vs : List AV} {t : AV} (hg : E0.ext f = some g) (hv : args.mapM (D5 H 8) = some vs) (ht : g ty vs = some t) :
  (PR n β).call ty (.fn f [] []) args H k = k (Dd A4 E0.tp H.length ty t).1 (H ++ (Dd A4 E0.tp H.length ty t).2) := by
 show M7 E0 (Ff E0 n) ty f ([] ++ args ++ []) H k = _
 simp only [M7, hg, zak, zao, Aap, hv, zad, ht]
 rfl
end
theorem Be (n ty : Nat) (f : FuncId) (args : List AV) : Di E0 n ty f args = Ff E0 n AV f args [] fun x H => Bm A4 E0.tp ty H x := rfl
@[simp] theorem Aie {ti : Nat → Option TI} {tp : Nat → Option (List Nat)} (ty : Nat) (H : Ae) (v : Value) : Bm ti tp ty H (.sc v) = some (.sc v) := rfl
theorem It {ti : Nat → Option TI} {tp : Nat → Option (List Nat)} {H : Ae} {d ty id off n z : Nat} : Dq ti tp H (d + 1) ty (.sl id off n z) = (ti ty).bind fun i => (ti i.elem).bind fun j => if z = j.size then (if I5 H id then (Bf H id off (n * z)).bind fun cs => (Em (Dq ti tp H d) (zaj n j.cty).flatten cs).bind fun q => some (.ro n q.1, id :: q.2) else none) else none := rfl
theorem Is {ti : Nat → Option TI} {tp : Nat → Option (List Nat)} {H : Ae} {d ty : Nat} {cs : List AV} : Dq ti tp H (d + 1) ty (.agg cs) = (ti ty).bind fun i => (Em (Dq ti tp H d) i.cty cs).bind fun q => some (.agg q.1, q.2) := rfl
theorem Jp {ti : Nat → Option TI} {tp : Nat → Option (List Nat)} {H : Ae} {d ty : Nat} {cs : List AV} : Dq ti tp H (d + 1) ty (.tup cs) = (tp ty).bind fun ts => (Em (Dq ti tp H d) ts cs).bind fun q => some (.tup q.1, q.2) := rfl
theorem Wj {ti : Nat → Option TI} {tp : Nat → Option (List Nat)} {H : Ae} {d ty : Nat} {v : Value} : Dq ti tp H (d + 1) ty (.sc v) = some (.sc v, []) := rfl
theorem H6 {ti : Nat → Option TI} {tp : Nat → Option (List Nat)} {n ty : Nat} {v : Value} : Dd ti tp n ty (.sc v) = (.sc v, []) := rfl
theorem Je {ti : Nat → Option TI} {tp : Nat → Option (List Nat)} {n ty : Nat} {cs : List AV} : Dd ti tp n ty (.agg cs) = (.agg (Cn ti tp n ((ti ty).getD default).cty cs).1, (Cn ti tp n ((ti ty).getD default).cty cs).2) := rfl
theorem U1 {ti : Nat → Option TI} {tp : Nat → Option (List Nat)} {n ty : Nat} {cs : List AV} : Dd ti tp n ty (.tup cs) = (.tup (Cn ti tp n ((tp ty).getD []) cs).1, (Cn ti tp n ((tp ty).getD []) cs).2) := rfl
theorem Ql {H : Ae} {d id off n z : Nat} : D5 H (d + 1) (.sl id off n z) = (Bf H id off (n * z)).bind fun cs => (cs.mapM (D5 H d)).bind fun vs => some (.ro n vs) := rfl
theorem Oo {H : Ae} {d : Nat} {cs : List AV} : D5 H (d + 1) (.agg cs) = (cs.mapM (D5 H d)).bind fun vs => some (.agg vs) := rfl
theorem Aey {H : Ae} {d : Nat} {v : Value} : D5 H (d + 1) (.sc v) = some (.sc v) := rfl
theorem Ud {H : Ae} {d n : Nat} {cs : List AV} : D5 H (d + 1) (.ro n cs) = some (.ro n cs) := rfl
theorem AaG {H : Ae} {d : Nat} : ∀ (l : List Value), (l.map AV.sc).mapM (D5 H (d + 1)) = some (l.map AV.sc)
 | [] => rfl
 | x :: l => by
  have e : D5 H (d + 1) (.sc x) = some (.sc x) := rfl
  simp only [zaq, zaG, e, zbc, zaM, zad, AaG l]
theorem AaI {ti : Nat → Option TI} {tp : Nat → Option (List Nat)} {H : Ae} {d : Nat} : ∀ (ts : List Nat) (l : List Value), ts.length = l.length → Em (Dq ti tp H (d + 1)) ts (l.map AV.sc) = some (l.map AV.sc, [])
 | [], [], _ => rfl
 | t :: ts, x :: l, h => by
  have e : Dq ti tp H (d + 1) t (.sc x) = some (.sc x, []) := rfl
  simp only [zaq, Em, e, zad, AaI ts l (by simpa using h), zao]
 | [], _ :: _, h => by simp at h
 | _ :: _, [], h => by simp at h
def bv (s : ByteArray) : List Value := s.data.toList.map fun b => .int .u8 b.toNat
theorem Y2 (s : ByteArray) : Bp s = (bv s).map AV.sc := by simp [Bp, bv]
theorem Fb (s : ByteArray) : (Bp s).length = s.size := by simp [Bp]
theorem Vz (s : ByteArray) : (Bp s).all Bn = true := by
 simp only [Bp, List.all_map, za8]
 intro b _
 rfl
theorem Mk : ∀ (l : List UInt8), (l.map fun b => AV.sc (.int .u8 (b.toNat : Int))).mapM Ks = some l
 | [] => rfl
 | b :: l => by
  have e : Ks (.sc (.int .u8 (b.toNat : Int))) = some b := by simp [Ks]
  simp only [zaq, zaG, e, Mk l, zbc, zaM, zad]
end
section
open Go
section gen
variable {ti : Nat → Option TI} {tp : Nat → Option (List Nat)}
def Hg (f : Nat → AV → Prop) : List Nat → List AV → Prop
 | [], [] => True
 | t :: ts, x :: xs => f t x ∧ Hg f ts xs
 | _, _ => False
def Iq (ti : Nat → Option TI) (tp : Nat → Option (List Nat)) : Nat → Nat → AV → Prop
 | 0, _, _ => False
 | d + 1, ty, x =>
  match x with
  | .sc _ => True
  | .ro n cells => ∃ i j, ti ty = some i ∧ ti i.elem = some j ∧ cells.length = n * j.size ∧ Hg (Iq ti tp d) (zaj n j.cty).flatten cells
  | .agg cs => ∃ i, ti ty = some i ∧ Hg (Iq ti tp d) i.cty cs
  | .tup cs => ∃ ts, tp ty = some ts ∧ Hg (Iq ti tp d) ts cs
  | _ => False
theorem X6 {f : Nat → AV → Prop} : ∀ {ts : List Nat} {cs : List AV}, Hg f ts cs → ts.length = cs.length
 | [], [], _ => rfl
 | _ :: ts, _ :: cs, h => by rw [zar, zar, X6 h.2]
theorem Nx {f : Nat → AV → Prop} : ∀ {ts : List Nat} {cs : List AV} {ts' : List Nat} {cs' : List AV}, Hg f ts cs → Hg f ts' cs' → Hg f (ts ++ ts') (cs ++ cs')
 | [], [], _, _, _, h => h
 | _ :: ts, _ :: cs, _, _, h, h' => ⟨h.1, Nx h.2 h'⟩
theorem Qy {α : Type} {f : Nat → AV → Prop} {cty : List Nat} {enc : α → List AV} : ∀ (l : List α), (∀ x ∈ l, Hg f cty (enc x)) → Hg f (zaj l.length cty).flatten (l.map enc).flatten
 | [], _ => by simp [Hg]
 | x :: l, h => by
  rw [zar, zb0, za6, zaq, za6]
  exact Nx (h x zaz) (Qy l fun y hy => h y (zay _ hy))
theorem P6 {f g : Nat → AV → Prop} (hfg : ∀ t x, f t x → g t x) : ∀ {ts : List Nat} {cs : List AV}, Hg f ts cs → okL g ts cs
 | [], [], _ => trivial
 | _ :: ts, _ :: cs, h => ⟨hfg _ _ h.1, P6 hfg h.2⟩
theorem P9 : ∀ (d : Nat) (ty : Nat) (x : AV), Iq ti tp d ty x → X7 ti tp d ty x
 | 0, _, _, h => h
 | d + 1, ty, x, h => by
  cases x with
  | sc v => trivial
  | ro n cells =>
   obtain ⟨i, j, h1, h2, h3, h4⟩ := h
   show cells.length = n * (((ti ty).bind fun i => ti i.elem).getD default).size ∧ _
   simp only [h1, zad, h2, zaO]
   exact ⟨h3, P6 (P9 d) h4⟩
  | agg cs =>
   obtain ⟨i, h1, h2⟩ := h
   show okL _ ((ti ty).getD default).cty cs
   rw [h1]
   exact P6 (P9 d) h2
  | tup cs =>
   obtain ⟨ts, h1, h2⟩ := h
   show okL _ ((tp ty).getD []) cs
   rw [h1]
   exact P6 (P9 d) h2
  | _ => cases h
theorem Vh {H : Ae} {d : Nat} (hd : ∀ ty t N, Iq ti tp d ty t → Lies H N (Dd ti tp N ty t).2 → (∀ b ∈ (Dd ti tp N ty t).2, b.live = true ∧ b.app = true) → Dq ti tp H d ty (Dd ti tp N ty t).1 = some (t, List.range' N (Dd ti tp N ty t).2.length)) :
  ∀ (ts : List Nat) (cs : List AV) (N : Nat), Hg (Iq ti tp d) ts cs → Lies H N (Cn ti tp N ts cs).2 → (∀ b ∈ (Cn ti tp N ts cs).2, b.live = true ∧ b.app = true) → Em (Dq ti tp H d) ts (Cn ti tp N ts cs).1 = some (cs, List.range' N (Cn ti tp N ts cs).2.length)
 | [], [], N, _, _, _ => rfl
 | t :: ts, x :: cs, N, h, hl, hb => by
  simp only [Cn, List.headD_cons, List.tail_cons] at hl hb ⊢
  have h1 := hd t x N h.1 hl.left fun b hb' => hb b (zaF _ hb')
  have h2 := Vh hd ts cs _ h.2 hl.right fun b hb' => hb b (zaK _ hb')
  have e := List.range'_append (s := N) (m := (Dd ti tp N t x).2.length) (n := (Cn ti tp (N + (Dd ti tp N t x).2.length) ts cs).2.length) (step := 1)
  rw [Nat.one_mul] at e
  simp only [Em, h1, h2, zad, zag, e]
mutual
theorem AbZ : ∀ (x : AV) (N ty : Nat), ∀ b ∈ (Dd ti tp N ty x).2, b.live = true ∧ b.app = true
 | .sc v, N, ty => by intro b h; cases h
 | .ro n cells, N, ty => by
  intro b h
  simp only [Dd, List.mem_cons] at h
  rcases h with rfl | h
  ·exact ⟨rfl, rfl⟩
  ·exact Ie cells _ _ b h
 | .agg cs, N, ty => fun b h => Ie cs _ _ b h
 | .tup cs, N, ty => fun b h => Ie cs _ _ b h
 | .any, N, ty => by intro b h; cases h
 | .nl, N, ty => by intro b h; cases h
 | .sl .., N, ty => by intro b h; cases h
 | .ptr .., N, ty => by intro b h; cases h
 | .rp .., N, ty => by intro b h; cases h
 | .fn .., N, ty => by intro b h; cases h
theorem Ie : ∀ (cs : List AV) (N : Nat) (ts : List Nat), ∀ b ∈ (Cn ti tp N ts cs).2, b.live = true ∧ b.app = true
 | [], N, ts => by intro b h; cases h
 | x :: cs, N, ts => by
  intro b h
  simp only [Cn, zaR] at h
  rcases h with h | h
  ·exact AbZ x _ _ b h
  ·exact Ie cs _ _ b h
end
theorem Tq {H : Ae} : ∀ (d ty : Nat) (t : AV) (N : Nat), Iq ti tp d ty t → Lies H N (Dd ti tp N ty t).2 → Dq ti tp H d ty (Dd ti tp N ty t).1 = some (t, List.range' N (Dd ti tp N ty t).2.length)
 | 0, _, _, _, h, _ => by cases h
 | d + 1, ty, t, N, h, hl => by
  have ih := Vh (H := H) (d := d) (ti := ti) (tp := tp) (fun ty t N h h' _ => Tq d ty t N h h')
  cases t with
  | sc v => rfl
  | ro n cells =>
   obtain ⟨i, j, h1, h2, h3, h4⟩ := h
   have e : Dd ti tp N ty (.ro n cells) = (.sl N 0 n j.size, ⟨(Cn ti tp (N + 1) (zaj n j.cty).flatten cells).1, true, true⟩ :: (Cn ti tp (N + 1) (zaj n j.cty).flatten cells).2) := by
    simp only [Dd, h1, zad, h2, zaO]
   rw [e] at hl ⊢
   have hb := hl 0 _ rfl
   rw [zaZ] at hb
   have hv := ih (zaj n j.cty).flatten cells (N + 1) h4 hl.tail (Ie _ _ _)
   have hlen := L4 (ti := ti) (tp := tp) (N + 1) (zaj n j.cty).flatten cells
   have e2 : Bf H N 0 (n * j.size) = some (Cn ti tp (N + 1) (zaj n j.cty).flatten cells).1 := by
    simp only [Bf, hb, if_true, zaS, za3]
    rw [if_pos (by rw [hlen, h3]; exact zam _), ← h3, ← hlen, zaJ]
   have e3 : I5 H N = true := by simp only [I5, hb]
   rw [It]
   simp only [h1, h2, zad, if_true, e2, e3, hv, zar]
   rw [List.range'_succ]
  | agg cs =>
   obtain ⟨i, h1, h2⟩ := h
   have e : Dd ti tp N ty (.agg cs) = (.agg (Cn ti tp N i.cty cs).1, (Cn ti tp N i.cty cs).2) := by rw [Je, h1]; rfl
   rw [e] at hl ⊢
   rw [Is]
   simp only [h1, zad, ih i.cty cs N h2 hl (Ie _ _ _)]
  | tup cs =>
   obtain ⟨ts, h1, h2⟩ := h
   have e : Dd ti tp N ty (.tup cs) = (.tup (Cn ti tp N ts cs).1, (Cn ti tp N ts cs).2) := by rw [U1, h1]; rfl
   rw [e] at hl ⊢
   rw [Jp]
   simp only [h1, zad, ih ts cs N h2 hl (Ie _ _ _)]
  | _ => cases h
theorem Aai (A B X : List Iy) : Lies (A ++ B ++ X) A.length B := fun j b hj => by
 have hlt := (zae.1 hj).1
 rw [zah, zai (by omega), Nat.add_sub_cancel_left, zal hlt]
 exact hj
theorem W1 (A B : List Iy) : Lies (A ++ B) A.length B := by
 have := Aai A B []
 rwa [zao] at this
theorem AaJ (A : List Iy) (ty : Nat) (t : AV) (h : Iq ti tp 8 ty t) : Bm ti tp ty (A ++ (Dd ti tp A.length ty t).2) (Dd ti tp A.length ty t).1 = some t := by
 rw [Bm, Tq 8 ty t A.length h (W1 _ _)]
 simp only [zad]
 rw [if_pos (List.nodup_range')]
def Vw (H : Ae) (x v : AV) : Prop := ∀ X : List Iy, D5 (H ++ X) 8 x = some v
theorem Vw.grow {H : Ae} {x v : AV} (h : Vw H x v) (X : List Iy) : Vw (H ++ X) x v := fun Y => by
 rw [zah]
 exact h _
theorem Vw.now {H : Ae} {x v : AV} (h : Vw H x v) : D5 H 8 x = some v := by
 have := h []
 rwa [zao] at this
theorem Ae9 (H : Ae) (ty : Nat) (t : AV) (h : Iq ti tp 8 ty t) : Vw (H ++ (Dd ti tp H.length ty t).2) (Dd ti tp H.length ty t).1 t := fun X => Vr 8 ty t H.length (P9 8 ty t h) (Aai _ _ _)
theorem I4 (H : Ae) (v : Value) : Vw H (.sc v) (.sc v) := fun _ => rfl
theorem I3 (H : Ae) (n : Nat) (cs : List AV) : Vw H (.ro n cs) (.ro n cs) := fun _ => rfl
def Mw : AV → Bool
 | .sc v => M9 v
 | .ro _ _ => true
 | _ => false
theorem Af5 {cs : List AV} (h : cs.all Mw = true) : cs.all Bn = true := by
 rw [za8] at h ⊢
 intro x hx
 have := h x hx
 cases x <;> simp_all [Mw, Bn]
theorem Xq {cs : List AV} (h : cs.all Mw = true) : Fl (.agg cs) = some cs := by
 show (if cs.all Bn then some cs else none) = _
 rw [if_pos (Af5 h)]
theorem V7 {H : Ae} {d : Nat} : ∀ {cs : List AV}, cs.all Mw = true → cs.mapM (D5 H (d + 1)) = some cs
 | [], _ => rfl
 | x :: cs, h => by
  rw [zap, zaf] at h
  have e : D5 H (d + 1) x = some x := by
   have := h.1
   cases x <;> first | rfl | (exfalso; simp [Mw] at this)
  simp only [zaG, e, V7 h.2, zbc, zaM, zad]
theorem Vt (H : Ae) {cs : List AV} (h : cs.all Mw = true) : Vw H (.agg cs) (.agg cs) := fun X => by
 rw [Oo, V7 h]
 rfl
theorem Pd : ∀ (cs : List AV) (N : Nat) (ts : List Nat), cs.all Mw = true → (Cn ti tp N ts cs).1.all Bn = true
 | [], _, _, _ => rfl
 | x :: cs, N, ts, h => by
  rw [zap, zaf] at h
  simp only [Cn, zap, zaf]
  refine ⟨?_, Pd cs _ _ h.2⟩
  have := h.1
  cases x <;> first | exact this | rfl | (exfalso; simp [Mw] at this)
theorem P0 : ∀ (ts : List Nat) (cs : List AV) (ts' : List Nat) (cs' : List AV) (N : Nat), ts.length = cs.length →
  Cn ti tp N (ts ++ ts') (cs ++ cs') = ((Cn ti tp N ts cs).1 ++ (Cn ti tp (N + (Cn ti tp N ts cs).2.length) ts' cs').1, (Cn ti tp N ts cs).2 ++ (Cn ti tp (N + (Cn ti tp N ts cs).2.length) ts' cs').2)
 | [], [], ts', cs', N, _ => by simp [Cn]
 | t :: ts, x :: cs, ts', cs', N, h => by
  have ih := P0 ts cs ts' cs' (N + (Dd ti tp N t x).2.length) (by simpa using h)
  simp only [za0, Cn, List.headD_cons, List.tail_cons, ih, zag, zah, zaL]
end gen
section ops
variable {β : Type}
theorem Of (w len : Nat) (cells : List AV) (i : Nat) (k : AV → Option β) (h : i < len) (h2 : i * w < cells.length) : Fv w (.ro len cells) (.sc (.int .i64 i)) k = k (.rp (cells.drop (i * w))) := by
 simp only [Fv, Yx, zad, zbz]
 rw [if_pos ⟨by omega, by omega⟩, if_pos h2]
theorem AaA (w len id off : Nat) (i : Nat) (k : AV → Option β) (h : i < len) : Fv w (.sl id off len w) (.sc (.int .i64 i)) k = k (.ptr id (off + i * w)) := by
 simp only [Fv, Yx, zad, zbz, if_true]
 rw [if_pos ⟨by omega, by omega⟩]
theorem AdR (w : Nat) (cs r : List AV) (H : Ae) (k : AV → Option β) (h : cs.length = w) : D1 true w (.rp (cs ++ r)) H k = k (.agg cs) := by
 simp only [D1, zag, h, Nat.le_add_right, if_true, List.take_left' h]
theorem Pe (c : AV) (r : List AV) (H : Ae) (k : AV → Option β) : D1 false 1 (.rp (c :: r)) H k = k c := by
 simp only [D1, zar, Nat.le_add_left, if_true, zaa, if_false]
 rfl
theorem Ym (w id off : Nat) (y : AV) (b : Iy) (cs : List AV) (H : Ae) (k : Ae → Option β) (h : H[id]? = some b) (hc : Fl y = some cs) (hl : cs.length = w) (ho : off + w ≤ b.cells.length) (hb : b.live = true) : Gb w (.ptr id off) y H k = k (H.set id { b with cells := F6 b.cells off cs }) := by
 simp only [Gb, h, hc, zad, hb, if_true, hl, ho]
theorem T4 (A z C cs : List AV) (h : z.length = cs.length) : F6 (A ++ (z ++ C)) A.length cs = A ++ (cs ++ C) := by
 unfold F6
 rw [List.take_left' rfl, ← zah A z C, zaW (by rw [zag]; omega), ← h, ← zag, zbB, zak, zah]
theorem Ke (a b : Nat) (k : AV → Option β) : En .lss (.sc (.int .i64 a)) (.sc (.int .i64 b)) k = k (.sc (.bool (decide (a < b)))) := by
 show k (.sc (.bool (decide ((a : Int) < (b : Int))))) = _
 rw [show decide ((a : Int) < (b : Int)) = decide (a < b) from by simp]
theorem Ia (a : Nat) (k : AV → Option β) (h : a < 9223372036854775807) : En .add (.sc (.int .i64 a)) (.sc (.int .i64 1)) k = k (.sc (.int .i64 (a + 1 : Nat))) := by
 show k (.sc (.int .i64 (IntKind.i64.wrap ((a : Int) + 1)))) = _
 have e : IntKind.i64.wrap ((a : Int) + 1) = ((a + 1 : Nat) : Int) := by
  rw [IntKind.wrap_i64, Int.natCast_add]
  simp only [Int.cast_ofNat_Int]
  omega
 rw [e]
theorem Fm (b : Bool) (x y : Option β) : Gn (.sc (.bool b)) x y = if b then x else y := rfl
theorem Hn (n : Nat) (cs : List AV) (k : AV → Option β) : L9 (.ro n cs) k = k (.sc (.int .i64 n)) := rfl
theorem Iv (n : Int) (h0 : -9223372036854775808 ≤ n) (h1 : n ≤ 9223372036854775807) : IntKind.i64.wrap n = n := by
 rw [IntKind.wrap_i64]; omega
theorem R0 (a b : Int) (k : AV → Option β) (h0 : -9223372036854775808 ≤ a - b) (h1 : a - b ≤ 9223372036854775807) : En .sub (.sc (.int .i64 a)) (.sc (.int .i64 b)) k = k (.sc (.int .i64 (a - b))) := by
 show k (.sc (.int .i64 (IntKind.i64.wrap (a - b)))) = _
 rw [Iv _ h0 h1]
theorem Tg (a b : Int) (k : AV → Option β) : En .lss (.sc (.int .i64 a)) (.sc (.int .i64 b)) k = k (.sc (.bool (decide (a < b)))) := rfl
theorem Abe {α : Type} {w : Nat} {enc : α → List AV} (hw : ∀ x, (enc x).length = w) (pre r : List α) : ((pre ++ r).map enc).flatten.drop (pre.length * w) = (r.map enc).flatten := by
 have hl : ((pre.map enc).flatten).length = pre.length * w := by
  induction pre with
  | nil => simp
  | cons x pre ih => rw [zaq, za6, zag, ih, hw, zar, Nat.succ_mul, zbE]
 rw [za2, zb1, zaW (by omega), ← hl, zbB, zak]
theorem Yg {α : Type} {w : Nat} {enc : α → List AV} (hw : ∀ x, (enc x).length = w) (l : List α) : ((l.map enc).flatten).length = l.length * w := by
 induction l with
 | nil => simp
 | cons x l ih => rw [zaq, za6, zag, ih, hw, zar, Nat.succ_mul, zbE]
theorem Ac2 {α : Type} {w : Nat} {enc : α → List AV} (hw : ∀ x, (enc x).length = w) (h0 : 0 < w) (pre : List α) (x : α) (r : List α) (k : AV → Option β) :
  Fv w (.ro (pre ++ x :: r).length ((pre ++ x :: r).map enc).flatten) (.sc (.int .i64 pre.length)) k = k (.rp (enc x ++ (r.map enc).flatten)) := by
 have hl := Yg hw (pre ++ x :: r)
 have h1 : pre.length < (pre ++ x :: r).length := by simp
 rw [Of w _ _ pre.length k h1 (by rw [hl]; exact Nat.mul_lt_mul_of_pos_right h1 h0), Abe hw pre (x :: r), zaq, za6]
theorem Uz {α : Type} {n : Nat} (e : α → Value) (k : KO β) (z : AV) (hlf : ∀ x, M9 (e x) = true) (L : Nat → AV → AV → KO β)
  (hL : ∀ m a o i H, L (m + 1) a o i H = L9 a fun t10 => En .lss i t10 fun t11 => Gn t11 (Fv 1 a i fun t18 => D1 false 1 t18 H fun t19 => Fv 1 o i fun t21 => Gb 1 t21 t19 H fun H => En .add i (.sc (.int .i64 1)) fun t13 => L m a o t13 H) (k o H))
  (l : List α) (hlen : l.length ≤ 1048576) : ∀ (r pre : List α) (m : Nat), l = pre ++ r → r.length < m →
   L m (.ro l.length (l.map fun x => .sc (e x))) (.sl 0 0 l.length 1) (.sc (.int .i64 pre.length)) [⟨(pre.map fun x => .sc (e x)) ++ zaj r.length z, true, true⟩]
    = k (.sl 0 0 l.length 1) [⟨l.map fun x => .sc (e x), true, true⟩]
 | [], pre, m + 1, hl, hm => by
  rw [zao] at hl
  subst hl
  rw [hL, Hn, Ke, Fm]
  simp
 | x :: r, pre, m + 1, hl, hm => by
  have hlt : pre.length < l.length := by rw [hl]; simp
  rw [hL, Hn, Ke, Fm, if_pos (by simpa using hlt)]
  rw [Of 1 _ _ pre.length _ hlt (by simpa using hlt)]
  have hd : (l.map fun x => AV.sc (e x)).drop (pre.length * 1) = .sc (e x) :: r.map fun x => .sc (e x) := by
   rw [zbt, hl, za2, zaW (by simp)]
   rw [show pre.length = (pre.map fun x => AV.sc (e x)).length by simp, zbB]
   rfl
  rw [hd, Pe, AaA 1 _ _ _ _ _ hlt]
  have hc : Fl (.sc (e x)) = some [.sc (e x)] := by
   show Fl (.sc (e x)) = _
   simp only [Fl, Bn, hlf, if_true]
  rw [Ym 1 0 (0 + pre.length * 1) (.sc (e x)) ⟨(pre.map fun x => .sc (e x)) ++ zaj (x :: r).length z, true, true⟩ [.sc (e x)] _ _ rfl hc rfl (by simp) rfl]
  rw [List.set_cons_zero, Ia _ _ (by omega)]
  have ih := Uz (n := n) e k z hlf L hL l hlen r (pre ++ [x]) m (by rw [hl]; simp) (by simpa using hm)
  have e3 : F6 ((pre.map fun x => AV.sc (e x)) ++ zaj (x :: r).length z) (0 + pre.length * 1) [.sc (e x)] = ((pre ++ [x]).map fun x => AV.sc (e x)) ++ zaj r.length z := by
   have := T4 (pre.map fun x => AV.sc (e x)) [z] (zaj r.length z) [.sc (e x)] rfl
   rw [zbi] at this
   rw [zar, zb0, za3, zbt]
   refine this.trans ?_
   simp
  simp only [e3]
  rw [zag, zan] at ih
  exact ih
theorem Agr {α : Type} {n tyS f bytes : Nat} (e : α → Value) (z : AV) (hlf : ∀ x, M9 (e x) = true) (hty : ∃ i j, A4 tyS = some i ∧ A4 i.elem = some j ∧ j.size = 1 ∧ j.cty.length = 1) (L : (AV → Ae → Option AV) → Nat → AV → AV → AV → Ae → Option AV)
  (hL : ∀ k m a o i H, L k (m + 1) a o i H = L9 a fun t10 => En .lss i t10 fun t11 => Gn t11 (Fv 1 a i fun t18 => D1 false 1 t18 H fun t19 => Fv 1 o i fun t21 => Gb 1 t21 t19 H fun H => En .add i (.sc (.int .i64 1)) fun t13 => L k m a o t13 H) (k o H))
  (hF : ∀ a H k, Ff E0 (n + 1) AV f [a] H k = L9 a fun t6 => Vm 1 bytes [z] t6 t6 H fun t7 H => L k n a t7 (.sc (.int .i64 0)) H)
  (hby : bytes ≤ 134217728) (l : List α) (hlen : l.length ≤ 1048576) (hn : 1048576 < n) :
  Di E0 (n + 1) tyS f [.ro l.length (l.map fun x => .sc (e x))] = some (.ro l.length (l.map fun x => .sc (e x))) := by
 rw [Be, hF, Hn]
 have hb : l.length * bytes ≤ 140737488355328 := zaB (Nat.mul_le_mul hlen hby) (by decide)
 have hz : (zaj l.length [z]).flatten = zaj l.length z := by
  generalize l.length = m
  induction m with
  | zero => rfl
  | succ m ih => rw [zb0, za6, ih, zb0]; rfl
 simp only [Vm, Yx, zad, if_true, zbz, hb, Int.natCast_nonneg, Hz, zat, zak, hz]
 have key := Uz (n := n) e (fun x H => Bm A4 E0.tp tyS H x) z hlf _ (hL _) l hlen l [] n (by simp) (by omega)
 simp only [zat, zaD, zak, zaX] at key
 refine key.trans ?_
 obtain ⟨i, j, h1, h2, h3, h4⟩ := hty
 have em : (l.map fun x => AV.sc (e x)) = (l.map e).map AV.sc := by rw [zbG]; rfl
 have hl1 : (zaj l.length j.cty).flatten.length = (l.map e).length := by simp [h4]
 have e3 := AaI (ti := A4) (tp := E0.tp) (H := [⟨l.map fun x => AV.sc (e x), true, true⟩]) (d := 6) _ _ hl1
 have e2 : Bf [⟨l.map fun x => AV.sc (e x), true, true⟩] 0 0 (l.length * 1) = some (l.map fun x => AV.sc (e x)) := by
  simp [Bf, zaV]
 rw [Bm, It]
 simp only [h1, h2, h3, zad, if_true, e2, I5, zbl]
 rw [em] at e3 ⊢
 rw [e3]
 rfl
theorem Sa (a b : Nat) (k : AV → Option β) : En .neq (.sc (.int .i64 a)) (.sc (.int .i64 b)) k = k (.sc (.bool (decide (a ≠ b)))) := by
 show k (.sc (.bool ((a : Int) != (b : Int)))) = _
 congr 3
 by_cases h : a = b
 ·subst h; simp
 ·simp [bne, h]; omega
theorem Xk {α : Type} {n : Nat} (e : α → Value) (k : KO β) (hne : ∀ (x : α) (γ : Type) (k : AV → Option γ), En .neq (.sc (e x)) (.sc (e x)) k = k (.sc (.bool false))) (L : Nat → AV → AV → KO β)
  (hL : ∀ m a b i H, L (m + 1) a b i H = L9 a fun t13 => En .lss i t13 fun t14 => Gn t14 (Fv 1 a i fun t19 => D1 false 1 t19 H fun t20 => Fv 1 b i fun t23 => D1 false 1 t23 H fun t24 => En .neq t20 t24 fun t25 => Gn t25 (k (.sc (.bool false)) H) (En .add i (.sc (.int .i64 1)) fun t16 => L m a b t16 H)) (k (.sc (.bool true)) H))
  (l : List α) (hlen : l.length ≤ 1048576) (H : Ae) : ∀ (r pre : List α) (m : Nat), l = pre ++ r → r.length < m →
   L m (.ro l.length (l.map fun x => .sc (e x))) (.ro l.length (l.map fun x => .sc (e x))) (.sc (.int .i64 pre.length)) H = k (.sc (.bool true)) H
 | [], pre, m + 1, hl, hm => by
  rw [zao] at hl
  subst hl
  rw [hL, Hn, Ke, Fm]
  simp
 | x :: r, pre, m + 1, hl, hm => by
  have hlt : pre.length < l.length := by rw [hl]; simp
  rw [hL, Hn, Ke, Fm, if_pos (by simpa using hlt)]
  have hd : (l.map fun x => AV.sc (e x)).drop (pre.length * 1) = .sc (e x) :: r.map fun x => .sc (e x) := by
   rw [zbt, hl, za2, zaW (by simp)]
   rw [show pre.length = (pre.map fun x => AV.sc (e x)).length by simp, zbB]
   rfl
  rw [Of 1 _ _ pre.length _ hlt (by simpa using hlt), hd, Pe, Of 1 _ _ pre.length _ hlt (by simpa using hlt), hd, Pe, hne, Fm, if_neg (by simp), Ia _ _ (by omega)]
  have ih := Xk (n := n) e k hne L hL l hlen H r (pre ++ [x]) m (by rw [hl]; simp) (by simpa using hm)
  rw [zag, zan] at ih
  exact ih
theorem AeK {α : Type} {n f : Nat} (e : α → Value) (hne : ∀ (x : α) (γ : Type) (k : AV → Option γ), En .neq (.sc (e x)) (.sc (e x)) k = k (.sc (.bool false))) (L : (AV → Ae → Option AV) → Nat → AV → AV → AV → Ae → Option AV)
  (hL : ∀ k m a b i H, L k (m + 1) a b i H = L9 a fun t13 => En .lss i t13 fun t14 => Gn t14 (Fv 1 a i fun t19 => D1 false 1 t19 H fun t20 => Fv 1 b i fun t23 => D1 false 1 t23 H fun t24 => En .neq t20 t24 fun t25 => Gn t25 (k (.sc (.bool false)) H) (En .add i (.sc (.int .i64 1)) fun t16 => L k m a b t16 H)) (k (.sc (.bool true)) H))
  (hF : ∀ a b H k, Ff E0 (n + 1) AV f [a, b] H k = L9 a fun t7 => L9 b fun t9 => En .neq t7 t9 fun t10 => Gn t10 (k (.sc (.bool false)) H) (L k n a b (.sc (.int .i64 0)) H))
  (l : List α) (hlen : l.length ≤ 1048576) (hn : 1048576 < n) (tb' : Nat) :
  Di E0 (n + 1) tb' f [.ro l.length (l.map fun x => .sc (e x)), .ro l.length (l.map fun x => .sc (e x))] = some (.sc (.bool true)) := by
 rw [Be, hF, Hn, Hn, Sa, Fm, if_neg (by simp)]
 have key := Xk (n := n) e (fun x H => Bm A4 E0.tp tb' H x) hne (L fun x H => Bm A4 E0.tp tb' H x) (hL fun x H => Bm A4 E0.tp tb' H x) l hlen [] l [] n (by simp) (by omega)
 simp only [zat, zaX] at key
 rw [key]
 rfl
def T6 (w : Nat) (left : Int) : Int := if left < w then -1 else left - w
theorem Aip {n f : Nat} (hF : ∀ a b H k, Ff E0 (n + 1) AV f [a, b] H k = L9 a fun t8 => En .sub b t8 fun t9 => En .lss t9 (.sc (.int .i64 0)) fun t11 => Gn t11 (k (.sc (.int .i64 (-1))) H) (k t9 H))
  (len : Nat) (cells : List AV) (hmax : len ≤ 9223372036854775807) (left : Int) (hl0 : 0 ≤ left) (hl1 : left ≤ 1048576) (ty' : Nat) :
  Di E0 (n + 1) ty' f [.ro len cells, .sc (.int .i64 left)] = some (.sc (.int .i64 (T6 len left))) := by
 rw [Be, hF, Hn, R0 _ _ _ (by omega) (by omega), Tg, Fm]
 by_cases h : left - (len : Int) < 0
 ·have e : T6 len left = -1 := by rw [T6, if_pos]; omega
  rw [if_pos (by simpa using h), e]
  rfl
 ·have e : T6 len left = left - len := by rw [T6, if_neg]; omega
  rw [if_neg (by simpa using h), e]
  rfl
end ops
end
section
open Go
variable {β : Type} {n : Nat}
theorem Qo (cs : List AV) (H : Ae) (k : KO β) (h : cs.all Mw = true) : Yc (.agg cs) H k = k (.ptr H.length 0) (H ++ [⟨cs, true, true⟩]) := by
 rw [Yc, Xq h]
 rfl
theorem ldT {m id off : Nat} {H : Ae} {cs : List AV} (h : Bf H id off m = some cs) (k : AV → Option β) : D1 true m (.ptr id off) H k = k (.agg cs) := by
 simp only [D1, h, zad, if_true]
theorem ldF {id off : Nat} {H : Ae} {c : AV} (h : Bf H id off 1 = some [c]) (k : AV → Option β) : D1 false 1 (.ptr id off) H k = k c := by
 simp only [D1, h, zad, zaa, if_false, one]
noncomputable def Ul (b0 b1 : Iy) (ts : List Nat) (cs z : List AV) : Ae := b0 :: b1 :: ⟨(Cn A4 E0.tp 3 ts cs).1 ++ z, true, true⟩ :: (Cn A4 E0.tp 3 ts cs).2
theorem AdB {b0 b1 : Iy} {ts : List Nat} {cs z0 z : List AV} {w o : Nat} {y : AV} {ys : List AV} {B : List Iy} {ts' : List Nat} {cs' : List AV} (hl : ts.length = cs.length) (ho : o = cs.length) (hw : z0.length = w) (hc : Fl y = some ys) (hy : ys.length = w)
  (hB : Cn A4 E0.tp (3 + (Cn A4 E0.tp 3 ts cs).2.length) ts' cs' = (ys, B)) (K : Ae → Option β) :
  Gb w (.ptr 2 o) y (Ul b0 b1 ts cs (z0 ++ z) ++ B) K = K (Ul b0 b1 (ts ++ ts') (cs ++ cs') z) := by
 have hP : (Cn A4 E0.tp 3 ts cs).1.length = cs.length := L4 _ _ _
 rw [Ym w 2 o y ⟨(Cn A4 E0.tp 3 ts cs).1 ++ (z0 ++ z), true, true⟩ ys _ _ rfl hc hy (by simp [hP, ho, hw]) rfl]
 congr 1
 have hs : F6 ((Cn A4 E0.tp 3 ts cs).1 ++ (z0 ++ z)) o ys = (Cn A4 E0.tp 3 ts cs).1 ++ (ys ++ z) := by
  rw [ho, ← hP]
  exact T4 _ _ _ _ (by rw [hw, hy])
 simp only [Ul, za0, List.set_cons_succ, List.set_cons_zero, hs, P0 ts cs ts' cs' 3 hl, hB, zah]
theorem Aju {b0 b1 : Iy} {ts : List Nat} {cs z z' : List AV} {o : Nat} {t : Nat} {v : Value} {c : AV} {K : Ae → Option β} {r : Option β} (hr : Bf (Ul b0 b1 ts cs z) 0 o 1 = some [.sc v]) (hv : M9 v = true) (hl : ts.length = cs.length) (ho : o = cs.length) (hz : z = c :: z')
  (h : K (Ul b0 b1 (ts ++ [t]) (cs ++ [.sc v]) z') = r) :
  (G9 o (.ptr 0 0) fun t4 => D1 false 1 t4 (Ul b0 b1 ts cs z) fun t5 => G9 o (.ptr 2 0) fun t6 => Gb 1 t6 t5 (Ul b0 b1 ts cs z) fun H => K H) = r := by
 subst hz
 simp only [G9, za3]
 rw [ldF hr]
 have := AdB (β := β) (b0 := b0) (b1 := b1) (ts := ts) (cs := cs) (z0 := [c]) (z := z') (w := 1) (o := o) (y := .sc v) (ys := [.sc v]) (B := []) (ts' := [t]) (cs' := [.sc v]) hl ho rfl (by simp only [Fl, Bn, hv, if_true]) rfl (by simp [Cn, Dd]) K
 rw [zao] at this
 exact this.trans h
theorem Ajt {b0 b1 : Iy} {ts : List Nat} {cs z z' : List AV} {o t g len : Nat} {c : AV} {cells : List AV} {K : Ae → Option β} {r : Option β} (hr : Bf (Ul b0 b1 ts cs z) 0 o 1 = some [.ro len cells]) (hh : Gu g = false) (ht : Di E0 n t g [.ro len cells] = some (.ro len cells)) (hl : ts.length = cs.length) (ho : o = cs.length) (hz : z = c :: z')
  (h : K (Ul b0 b1 (ts ++ [t]) (cs ++ [.ro len cells]) z') = r) :
  (G9 o (.ptr 0 0) fun t4 => D1 false 1 t4 (Ul b0 b1 ts cs z) fun t5 => (PR n β).call t (.fn g [] []) [t5] (Ul b0 b1 ts cs z) fun t9 H => G9 o (.ptr 2 0) fun t6 => Gb 1 t6 t9 H fun H => K H) = r := by
 subst hz
 simp only [G9, za3]
 rw [ldF hr, J6 (vs := [.ro len cells]) hh (by simp only [zaG, Ud]; rfl) ht]
 have hH : (Ul b0 b1 ts cs (c :: z')).length = 3 + (Cn A4 E0.tp 3 ts cs).2.length := by simp [Ul]; omega
 rw [hH]
 have hi : ∀ N, ∃ s : AV, Bn s = true ∧ (Dd A4 E0.tp N t (.ro len cells)).1 = s ∧ Fl s = some [s] := fun N => by
  refine ⟨_, ?_, rfl, ?_⟩ <;> simp [Dd, Bn, Fl]
 obtain ⟨s, _, hs, hc⟩ := hi (3 + (Cn A4 E0.tp 3 ts cs).2.length)
 have := AdB (β := β) (b0 := b0) (b1 := b1) (ts := ts) (cs := cs) (z0 := [c]) (z := z') (w := 1) (o := o) (y := s) (ys := [s]) (ts' := [t]) (cs' := [.ro len cells]) (B := (Dd A4 E0.tp (3 + (Cn A4 E0.tp 3 ts cs).2.length) t (.ro len cells)).2) hl ho rfl hc rfl (by simp only [Cn, List.headD_cons, zao, hs]) K
 rw [hs]
 exact this.trans h
theorem Aiq {b0 : Iy} {z1 cells : List AV} {cty : List Nat} {w ty : Nat} (hw : cells.length = w) (hz : z1.length = w) (hfl : cells.all Mw = true) (hty : ∃ i, A4 ty = some i ∧ i.cty = cty) (hok : Hg (Iq A4 E0.tp 7) cty cells) :
  (D1 true w (.ptr 2 0) (Ul b0 ⟨z1, true, true⟩ cty cells []) fun t14 => Gb w (.ptr 1 0) t14 (Ul b0 ⟨z1, true, true⟩ cty cells []) fun H => D1 true w (.ptr 1 0) H fun r0 => Bm A4 E0.tp ty H r0) = some (.agg cells) := by
 obtain ⟨i, hi, rfl⟩ := hty
 have hlen := L4 (ti := A4) (tp := E0.tp) 3 i.cty cells
 have hleaf := Pd (ti := A4) (tp := E0.tp) cells 3 i.cty hfl
 have h1 : Bf (Ul b0 ⟨z1, true, true⟩ i.cty cells []) 2 0 w = some (Cn A4 E0.tp 3 i.cty cells).1 := by
  simp [Bf, Ul, hlen, hw, zaV]
 rw [ldT h1]
 have hc : Fl (.agg (Cn A4 E0.tp 3 i.cty cells).1) = some (Cn A4 E0.tp 3 i.cty cells).1 := by
  show (if _ then _ else none) = _
  rw [if_pos hleaf]
 rw [Ym w 1 0 _ ⟨z1, true, true⟩ _ _ _ rfl hc (by rw [hlen, hw]) (by simp [hz]) rfl]
 have hs : F6 z1 0 (Cn A4 E0.tp 3 i.cty cells).1 = (Cn A4 E0.tp 3 i.cty cells).1 := by
  unfold F6
  rw [List.take_zero, zak, zbf (by rw [hlen, hw, hz]; omega), zao]
 simp only [hs]
 have h2 : Bf ((Ul b0 ⟨z1, true, true⟩ i.cty cells []).set 1 ⟨(Cn A4 E0.tp 3 i.cty cells).1, true, true⟩) 1 0 w = some (Cn A4 E0.tp 3 i.cty cells).1 := by
  simp [Bf, Ul, hlen, hw, zaV]
 rw [ldT h2]
 have hok' : Iq A4 E0.tp 8 ty (.agg cells) := ⟨i, hi, hok⟩
 have := AaJ [b0, ⟨(Cn A4 E0.tp 3 i.cty cells).1, true, true⟩, ⟨(Cn A4 E0.tp 3 i.cty cells).1 ++ [], true, true⟩] ty _ hok'
 rw [Je, hi] at this
 exact this
noncomputable def StB (T : List Nat) (C Z : List AV) (o : Nat) : Ae := Ul ⟨C, true, true⟩ ⟨Z, true, true⟩ (T.take o) (C.take o) (Z.drop o)
theorem Acu {T : List Nat} {C Z : List AV} {o p w : Nat} {cs : List AV} (h : (C.drop p).take w = cs) (hl : cs.length = w) (hw : 0 < w) : Bf (StB T C Z o) 0 p w = some cs := by
 have hle : p + w ≤ C.length := by
  have := congrArg List.length h
  rw [hl, List.length_take, List.length_drop] at this
  omega
 show (match (some ⟨C, true, true⟩ : Option Iy) with | some b => if b.live then (if p + w ≤ b.cells.length then some ((b.cells.drop p).take w) else none) else none | none => none) = _
 simp only [if_true, hle, h]
theorem Wi {C : List AV} {o : Nat} {c : AV} (h : C[o]? = some c) : (C.drop o).take 1 = [c] := by
 obtain ⟨hlt, e⟩ := zae.1 h
 rw [zaA hlt, e]
 rfl
theorem Wt {α : Type} {T : List α} {o w o' : Nat} {c : List α} (h : (T.drop o).take w = c) (ho : o' = o + w) : T.take o' = T.take o ++ c := by
 rw [ho, List.take_add, h]
theorem Ajq {T : List Nat} {C Z : List AV} {o o' : Nat} {v : Value} {K : Ae → Option β} {r : Option β} (hT : T.length = C.length) (hZ : Z.length = C.length) (hC : C[o]? = some (.sc v)) (hv : M9 v = true) (ho : o' = o + 1) (h : K (StB T C Z o') = r) :
  (G9 o (.ptr 0 0) fun t4 => D1 false 1 t4 (StB T C Z o) fun t5 => G9 o (.ptr 2 0) fun t6 => Gb 1 t6 t5 (StB T C Z o) fun H => K H) = r := by
 obtain ⟨hlt, _⟩ := zae.1 hC
 have hz : Z.drop o = Z[o]'(by omega) :: Z.drop o' := by rw [ho]; exact zaA _
 refine Aju (t := T[o]'(by omega)) (z' := Z.drop o') (Acu (Wi hC) rfl (by decide)) hv (by simp [hT]) (by simp; omega) hz ?_
 have e1 : T.take o' = T.take o ++ [T[o]'(by omega)] := Wt (w := 1) (by rw [zaA (by omega)]; rfl) ho
 have e2 : C.take o' = C.take o ++ [.sc v] := Wt (Wi hC) ho
 rw [← e1, ← e2]
 exact h
theorem Ajp {T : List Nat} {C Z : List AV} {o o' t g len : Nat} {cells : List AV} {K : Ae → Option β} {r : Option β} (hT : T.length = C.length) (hZ : Z.length = C.length) (hC : C[o]? = some (.ro len cells)) (hTt : T[o]? = some t) (hh : Gu g = false) (ht : Di E0 n t g [.ro len cells] = some (.ro len cells)) (ho : o' = o + 1) (h : K (StB T C Z o') = r) :
  (G9 o (.ptr 0 0) fun t4 => D1 false 1 t4 (StB T C Z o) fun t5 => (PR n β).call t (.fn g [] []) [t5] (StB T C Z o) fun t9 H => G9 o (.ptr 2 0) fun t6 => Gb 1 t6 t9 H fun H => K H) = r := by
 obtain ⟨hlt, _⟩ := zae.1 hC
 obtain ⟨hlt2, hTe⟩ := zae.1 hTt
 have hz : Z.drop o = Z[o]'(by omega) :: Z.drop o' := by rw [ho]; exact zaA _
 refine Ajt (z' := Z.drop o') (Acu (Wi hC) rfl (by decide)) hh ht (by simp [hT]) (by simp; omega) hz ?_
 have e1 : T.take o' = T.take o ++ [t] := Wt (w := 1) (by rw [zaA hlt2, hTe]; rfl) ho
 have e2 : C.take o' = C.take o ++ [.ro len cells] := Wt (Wi hC) ho
 rw [← e1, ← e2]
 exact h
theorem Aim {T : List Nat} {C Z : List AV} {w ty : Nat} (hT : T.length = C.length) (hZ : Z.length = C.length) (hw : C.length = w) (hfl : C.all Mw = true) (hty : ∃ i, A4 ty = some i ∧ i.cty = T) (hok : Hg (Iq A4 E0.tp 7) T C) :
  (D1 true w (.ptr 2 0) (StB T C Z w) fun t14 => Gb w (.ptr 1 0) t14 (StB T C Z w) fun H => D1 true w (.ptr 1 0) H fun r0 => Bm A4 E0.tp ty H r0) = some (.agg C) := by
 have e : StB T C Z w = Ul ⟨C, true, true⟩ ⟨Z, true, true⟩ T C [] := by
  unfold StB
  rw [zaV (by omega), zaV (by omega), zbf (by omega)]
 rw [e]
 exact Aiq hw (by omega) hfl hty hok
theorem AjO {o : Nat} {H : Ae} {b : Bool} {A K r : Option β} (h0 : Bf H 0 o 1 = some [.sc (.bool b)]) (h1 : Bf H 1 o 1 = some [.sc (.bool b)]) (h : K = r) :
  (G9 o (.ptr 0 0) fun t5 => D1 false 1 t5 H fun t6 => G9 o (.ptr 1 0) fun t7 => D1 false 1 t7 H fun t8 => Ow .neq t6 t8 fun t9 => Gn t9 A K) = r := by
 simp only [G9, za3]
 rw [ldF h0, ldF h1]
 simp only [Ow, asB, zad, binB, beq_self_eq_true, zav]
 exact h
theorem Aiz {o tb g : Nat} {H : Ae} {len : Nat} {cells : List AV} {A : Ae → Option β} {K : Ae → Option β} {r : Option β} (h0 : Bf H 0 o 1 = some [.ro len cells]) (h1 : Bf H 1 o 1 = some [.ro len cells]) (hh : Gu g = false) (ht : Di E0 n tb g [.ro len cells, .ro len cells] = some (.sc (.bool true))) (h : K H = r) :
  (G9 o (.ptr 0 0) fun t5 => D1 false 1 t5 H fun t6 => G9 o (.ptr 1 0) fun t7 => D1 false 1 t7 H fun t8 => (PR n β).call tb (.fn g [] []) [t6, t8] H fun t H => pUn .not t fun t9 => Gn t9 (A H) (K H)) = r := by
 simp only [G9, za3]
 rw [ldF h0, ldF h1, J6 (vs := [.ro len cells, .ro len cells]) hh (by simp only [zaG, Ud]; rfl) ht, H6, zao]
 exact h
theorem Aji (z : Int) (k : AV → Option β) : En .neq (.sc (.int .u8 z)) (.sc (.int .u8 z)) k = k (.sc (.bool false)) := by
 show k (.sc (.bool (z != z))) = _
 rw [bne_self_eq_false]
def szA (W : Nat) (left : Int) : Option AV := some (.sc (.int .i64 (T6 W left)))
theorem Agq {s W : Nat} {left : Int} (h : left < s) : T6 (s + W) left = -1 := by rw [T6, if_pos]; omega
theorem Ain {s W : Nat} {left : Int} (h : ¬ left < s) : T6 (s + W) left = T6 W (left - s) := by
 unfold T6
 by_cases h2 : left < ((s + W : Nat) : Int)
 ·rw [if_pos h2, if_pos (by omega)]
 ·rw [if_neg h2, if_neg (by omega)]; omega
theorem Ajr {o ty g : Nat} {H : Ae} {len : Nat} {cells : List AV} {w W : Nat} {left : Int} {A : Ae → Option AV} {K : AV → Ae → Option AV} (hr : Bf H 0 o 1 = some [.ro len cells]) (h0 : 0 ≤ left) (h1 : left ≤ 1048576) (hh : Gu g = false) (ht : Di E0 n ty g [.ro len cells, .sc (.int .i64 left)] = some (.sc (.int .i64 (T6 w left)))) (hA : A H = some (.sc (.int .i64 (-1)))) (hK : 0 ≤ left - w → left - w ≤ 1048576 → K (.sc (.int .i64 (left - w))) H = szA W (left - w)) :
  (G9 o (.ptr 0 0) fun t6 => D1 false 1 t6 H fun t7 => (PR n AV).call ty (.fn g [] []) [t7, .sc (.int .i64 left)] H fun t15 H => En .lss t15 (.sc (.int .i64 0)) fun t11 => Gn t11 (A H) (K t15 H)) = szA (w + W) left := by
 simp only [G9, za3]
 rw [ldF hr, J6 (vs := [.ro len cells, .sc (.int .i64 left)]) hh (by simp only [zaG, Ud, Aey]; rfl) ht, H6, zao]
 simp only
 rw [Tg, Fm]
 by_cases h : left < w
 ·have e : T6 w left = -1 := by rw [T6, if_pos h]
  rw [e, if_pos (by decide), hA, szA, Agq h]
 ·have e : T6 w left = left - w := by rw [T6, if_neg h]
  rw [e, if_neg (by simpa using (show ¬ left - (w : Int) < 0 by omega)), hK (by omega) (by omega), szA, szA, Ain h]
theorem Aio {left : Int} (h0 : 0 ≤ left) : some (AV.sc (.int .i64 left)) = szA 0 left := by
 rw [szA, T6, if_neg (by omega)]
 simp
abbrev Ai (s : ByteArray) : AV := .ro s.size (Bp s)
abbrev E1 (l : List Int) : AV := .ro l.length (l.map fun z => .sc (.int .i64 z))
abbrev E3 (l : List ByteArray) : AV := .ro l.length (l.map fun s => .sc (.string s))
abbrev Dk {α : Type} (enc : α → List AV) (l : List α) : AV := .ro l.length (l.map enc).flatten
def okS (s : ByteArray) : Prop := s.size ≤ 9223372036854775807
theorem Vb {f : Nat → AV → Prop} {α : Type} (e : α → Value) (hf : ∀ t v, f t (.sc v)) : ∀ (ts : List Nat) (l : List α), ts.length = l.length → Hg f ts (l.map fun x => .sc (e x))
 | [], [], _ => trivial
 | t :: ts, x :: l, h => ⟨hf _ _, Vb e hf ts l (by simpa using h)⟩
 | [], _ :: _, h => by simp at h
 | _ :: _, [], h => by simp at h
theorem Tk {α : Type} {ty d : Nat} (e : α → Value) (hty : ∃ i j, A4 ty = some i ∧ A4 i.elem = some j ∧ j.size = 1 ∧ j.cty.length = 1) (l : List α) : Iq A4 E0.tp (d + 2) ty (.ro l.length (l.map fun x => .sc (e x))) := by
 obtain ⟨i, j, h1, h2, h3, h4⟩ := hty
 exact ⟨i, j, h1, h2, by simp [h3], Vb e (fun _ _ => trivial) _ l (by simp [h4])⟩
theorem Vc {d ty : Nat} (hty : ∃ i j, A4 ty = some i ∧ A4 i.elem = some j ∧ j.size = 1 ∧ j.cty.length = 1) (s : ByteArray) : Iq A4 E0.tp (d + 2) ty (Ai s) := by
 have := Tk (d := d) (fun b : UInt8 => .int .u8 b.toNat) hty s.data.toList
 have e : s.data.toList.length = s.size := by simp
 rw [e] at this
 exact this
theorem AdY {α : Type} {ty d w : Nat} {cty : List Nat} {enc : α → List AV} (hw : ∀ x, (enc x).length = w) (hty : ∃ i j, A4 ty = some i ∧ A4 i.elem = some j ∧ j.size = w ∧ j.cty = cty) (he : ∀ x, Hg (Iq A4 E0.tp d) cty (enc x)) (l : List α) : Iq A4 E0.tp (d + 1) ty (Dk enc l) := by
 obtain ⟨i, j, h1, h2, h3, rfl⟩ := hty
 exact ⟨i, j, h1, h2, by rw [Yg hw, h3], Qy l fun x _ => he x⟩
theorem AdX {α : Type} {enc : α → List AV} {ok : α → Prop} {n t e : Nat} {cs : List AV} (hi : ∃ i, A4 t = some i ∧ i.isB = false ∧ i.ik = none ∧ i.isStr = false ∧ i.sl = true ∧ i.elem = e) (hel : ∀ n cs, Ys A4 n e cs → ∃ x, cs = enc x ∧ ok x) (h : Ys A4 n t cs) :
  ∃ l : List α, cs = [Dk enc l] ∧ l.length ≤ 9223372036854775807 ∧ ∀ x ∈ l, ok x := by
 cases n with
 | zero => cases h
 | succ n =>
  obtain ⟨i, h1, h2, h3, h4, h5, rfl⟩ := hi
  obtain ⟨i', hi', h⟩ := h
  rw [h1] at hi'
  obtain rfl := Option.some.inj hi'
  simp only [h2, h3, h4, h5] at h
  obtain ⟨rows, rfl, hl, hr⟩ := h
  have hm : maxLen = 9223372036854775807 := by decide
  rw [hm] at hl
  have key : ∀ rows : List (List AV), (∀ r ∈ rows, Ys A4 n i.elem r) → ∃ l : List α, rows = l.map enc ∧ ∀ x ∈ l, ok x := by
   intro rows
   induction rows with
   | nil => intro _; exact ⟨[], rfl, fun x h => by cases h⟩
   | cons r rows ih =>
    intro h
    obtain ⟨l, h1, h2⟩ := ih fun r hr => h r (zay _ hr)
    obtain ⟨x, hx, hox⟩ := hel n r (h r zaz)
    exact ⟨x :: l, by rw [h1, hx]; rfl, fun y hy => by rcases List.mem_cons.1 hy with rfl | hy; exact hox; exact h2 y hy⟩
  obtain ⟨l, rfl, h2⟩ := key rows hr
  exact ⟨l, by simp, by simpa using hl, h2⟩
theorem Acd {n : Nat} {cs : List AV} (h : Ys A4 n 4 cs) : ∃ b : Bool, cs = [.sc (.bool b)] := by
 cases n with
 | zero => cases h
 | succ n =>
  obtain ⟨i, hi, h⟩ := h
  obtain rfl := Option.some.inj (show some _ = some i from hi)
  exact h
theorem Ace {n : Nat} {cs : List AV} (h : Ys A4 n 5 cs) : ∃ b : UInt8, cs = [.sc (.int .u8 b.toNat)] := by
 cases n with
 | zero => cases h
 | succ n =>
  obtain ⟨i, hi, h⟩ := h
  obtain rfl := Option.some.inj (show some _ = some i from hi)
  obtain ⟨z, rfl, hw⟩ := (show ∃ z, cs = [.sc (.int .u8 z)] ∧ (Lit.int .u8 z).wf = true from h)
  have hz : 0 ≤ z ∧ z < 256 := by
   have hw' : IntKind.u8.min ≤ z ∧ z ≤ IntKind.u8.max := by simpa [Lit.wf] using hw
   have e1 : IntKind.u8.min = 0 := by decide
   have e2 : IntKind.u8.max = 255 := by decide
   rw [e1, e2] at hw'
   omega
  refine ⟨UInt8.ofNat z.toNat, ?_⟩
  have : (UInt8.ofNat z.toNat).toNat = z.toNat := by simp [UInt8.toNat_ofNat']; omega
  rw [this, Int.toNat_of_nonneg hz.1]
theorem Pu {α : Type} (e : α → AV) (l : List α) : (l.map fun x => [e x]).flatten = l.map e := by
 induction l with
 | nil => rfl
 | cons x l ih => rw [zaq, za6, ih]; rfl
theorem Z5 {n t : Nat} {cs : List AV} (hi : ∃ i, A4 t = some i ∧ i.isB = false ∧ i.ik = none ∧ i.isStr = false ∧ i.sl = true ∧ i.elem = 5) (h : Ys A4 n t cs) : ∃ s : ByteArray, cs = [Ai s] ∧ okS s := by
 obtain ⟨l, rfl, h1, _⟩ := AdX (α := UInt8) (enc := fun b => [.sc (.int .u8 b.toNat)]) (ok := fun _ => True) hi (fun n cs h => by obtain ⟨b, h⟩ := Ace h; exact ⟨b, h, trivial⟩) h
 refine ⟨⟨l.toArray⟩, ?_, ?_⟩
 ·rw [Dk, Pu]
  simp [Ai, Bp]
  rfl
 ·exact h1
theorem Z6 {n t : Nat} {cs : List AV} {fs : List (Nat × Nat)} (hi : ∃ i, A4 t = some i ∧ i.isB = false ∧ i.ik = none ∧ i.isStr = false ∧ i.sl = false ∧ i.isAgg = true ∧ i.fields = fs) (h : Ys A4 n t cs) : ∃ m, AdW (Ys A4 m) fs cs := by
 cases n with
 | zero => cases h
 | succ n =>
  obtain ⟨i, h1, h2, h3, h4, h5, h6, rfl⟩ := hi
  obtain ⟨i', hi', h⟩ := h
  rw [h1] at hi'
  obtain rfl := Option.some.inj hi'
  simp only [h2, h3, h4, h5, h6] at h
  exact ⟨n, h⟩
end
end Go.Proofs.YtlcpigdmekgajaaGreatDoor.Abs
set_option maxRecDepth 100000
namespace Go.Proofs.YtlcpigdmekgajaaGreatDoor.Abs
open _root_.Bool renaming false_eq_true → zaa, and_eq_true → zaf, not_true → zav, true_and → za1, eq_iff_iff → zb6
open _root_.Option renaming bind_eq_some_iff → zab, bind_some → zad, bind_eq_bind → zaM, getD_some → zaO, pure_def → zbc
open _root_.ByteArray renaming data_push → zbC
open _root_.List renaming getElem?_eq_some_iff → zae, length_append → zag, append_assoc → zah, getElem?_append_right → zai, replicate → zaj, nil_append → zak, getElem?_append_left → zal, length_singleton → zan, append_nil → zao, all_cons → zap, map_cons → zaq, length_cons → zar, length_nil → zat, mem_cons_of_mem → zay, mem_cons_self → zaz, cons_append → za0, map_append → za2, flatten_cons → za6, all_eq_true → za8, drop_eq_getElem_cons → zaA, map_nil → zaD, mem_append_left → zaF, mapM_cons → zaG, take_length → zaJ, mem_append_right → zaK, mem_append → zaR, drop_zero → zaS, take_of_length_le → zaV, drop_append_of_le_length → zaW, nodup_append → zba, getElem?_drop → zbb, drop_of_length_le → zbf, nodup_cons → zbh, length_map → zbi, mem_singleton → zbk, getElem?_cons_zero → zbl, length_eq_one_iff → zbp, getD_eq_getElem?_getD → zbq, getElem?_take_of_lt → zbw, replicate_succ → zb0, flatten_append → zb1, flatten_nil → zb2, Perm → zb7, any_cons → zb8, getElem?_set_ne → zb9, drop_drop → zbA, drop_length → zbB, mem_map → zbF, map_map → zbG
open _root_.Nat renaming le_refl → zam, zero_add → za3, le_trans → zaB, add_assoc → zaL, sub_self → zaP, add_zero → zaZ, mul_one → zbt, add_comm → zbE
open _root_.Array renaming ext' → zbe
open _root_.Int renaming natCast_zero → zaX, toNat_natCast → zbz
section
open Go
theorem Wv : ∃ i j, A4 22 = some i ∧ A4 i.elem = some j ∧ j.size = 1 ∧ j.cty.length = 1 := ⟨_, _, rfl, rfl, rfl, rfl⟩
theorem Acm (n : Nat) (hn : 1048576 < n) (s : ByteArray) (h : s.size ≤ 1048576) : Di E0 (n + 1) 22 32 [Ai s] = some (Ai s) := by
 have e : s.data.toList.length = s.size := by simp
 have h0 := Agr (n := n) (bytes := 1) (fun b : UInt8 => .int .u8 b.toNat) (.sc (.int .u8 0)) (fun _ => rfl) Wv (fun k => S2 (PR n AV) n k) (fun k m a o i H => rfl) (fun a H k => Ahp n a H k) (by decide) s.data.toList (by rw [e]; exact h) hn
 rw [e] at h0
 exact h0
theorem Abf (n : Nat) (hn : 1048576 < n) (tb : Nat) (s : ByteArray) (h : s.size ≤ 1048576) : Di E0 (n + 1) tb 35 [Ai s, Ai s] = some (.sc (.bool true)) := by
 have e : s.data.toList.length = s.size := by simp
 have h0 := AeK (n := n) (fun b : UInt8 => .int .u8 b.toNat) (fun x γ k => Aji _ k) (fun k => S3 (PR n AV) n k) (fun k m a b i H => rfl) (fun a b H k => Ahr n a b H k) s.data.toList (by rw [e]; exact h) hn tb
 rw [e] at h0
 exact h0
theorem Ack (n : Nat) (ty : Nat) (s : ByteArray) (hmax : s.size ≤ 9223372036854775807) (left : Int) (h0 : 0 ≤ left) (h1 : left ≤ 1048576) : Di E0 (n + 1) ty 47 [Ai s, .sc (.int .i64 left)] = some (.sc (.int .i64 (T6 s.size left))) :=
 Aip (n := n) (fun a b H k => Ahs n a b H k) s.size _ hmax left h0 h1 ty
theorem Air : ∃ i j, A4 57 = some i ∧ A4 i.elem = some j ∧ j.size = 1 ∧ j.cty.length = 1 := ⟨_, _, rfl, rfl, rfl, rfl⟩
theorem Aco : ∃ i j, A4 56 = some i ∧ A4 i.elem = some j ∧ j.size = 1 ∧ j.cty.length = 1 := ⟨_, _, rfl, rfl, rfl, rfl⟩
structure WantV where
 fFilter : ByteArray
 fQos : Int
def Cj (x : WantV) : List AV := .sc (.string x.fFilter) :: .sc (.int .i64 x.fQos) :: []
theorem G1 (x : WantV) : (Cj x).length = 2 := rfl
theorem Ad9 (x : WantV) : (Cj x).all Mw = true := rfl
def AeG : List Nat := [9, 3]
theorem AfU (d : Nat) (x : WantV) : Hg (Iq A4 E0.tp (d + 1)) AeG (Cj x) := ⟨trivial, ⟨trivial, trivial⟩⟩
structure PacketV where
 fType : Int
 fDup : Bool
 fQos : Int
 fRetain : Bool
 fId : Int
 fTopic : ByteArray
 fBody : ByteArray
 fClient : ByteArray
 fLevel : Int
 fClean : Bool
 fKeep : Int
 fHasWill : Bool
 fWTopic : ByteArray
 fWBody : ByteArray
 fWQos : Int
 fWRetain : Bool
 fHasUser : Bool
 fUser : ByteArray
 fHasPass : Bool
 fPass : ByteArray
 fCode : Int
 fPresent : Bool
 fWants : List WantV
 fNames : List ByteArray
 fCodes : List Int
def A0 (x : PacketV) : List AV := .sc (.int .i64 x.fType) :: .sc (.bool x.fDup) :: .sc (.int .i64 x.fQos) :: .sc (.bool x.fRetain) :: .sc (.int .i64 x.fId) :: .sc (.string x.fTopic) :: Ai x.fBody :: .sc (.string x.fClient) :: .sc (.int .i64 x.fLevel) :: .sc (.bool x.fClean) :: .sc (.int .i64 x.fKeep) :: .sc (.bool x.fHasWill) :: .sc (.string x.fWTopic) :: Ai x.fWBody :: .sc (.int .i64 x.fWQos) :: .sc (.bool x.fWRetain) :: .sc (.bool x.fHasUser) :: .sc (.string x.fUser) :: .sc (.bool x.fHasPass) :: Ai x.fPass :: .sc (.int .i64 x.fCode) :: .sc (.bool x.fPresent) :: Dk Cj x.fWants :: E3 x.fNames :: E1 x.fCodes :: []
theorem Dg (x : PacketV) : (A0 x).all Mw = true := rfl
def Abb : List Nat := [3, 4, 3, 4, 3, 9, 22, 9, 3, 4, 3, 4, 9, 22, 3, 4, 4, 9, 4, 22, 3, 4, 55, 56, 57]
structure Oq where
 fHeld : ByteArray
 fBad : Bool
def Id (x : Oq) : List AV := Ai x.fHeld :: .sc (.bool x.fBad) :: []
def O2 (x : Oq) : Nat := x.fHeld.size + 0
def X3 (x : Oq) : Prop := okS x.fHeld ∧ True
theorem Pf (x : Oq) : (Id x).length = 2 := rfl
theorem Kz (x : Oq) : (Id x).all Mw = true := rfl
def Y5 : List Nat := [22, 4]
theorem AaO : ∃ i, A4 32 = some i ∧ i.cty = Y5 := ⟨_, rfl, rfl⟩
theorem Wg (d : Nat) (x : Oq) : Hg (Iq A4 E0.tp (d + 2)) Y5 (Id x) := ⟨Vc (d := d + 0) Wv x.fHeld, ⟨trivial, trivial⟩⟩
theorem AfT {n : Nat} {cs : List AV} (h : Ys A4 n 24 cs) : ∃ x : Oq, cs = Id x ∧ X3 x := by
 obtain ⟨m, hf⟩ := Z6 (fs := [(0, 22), (1, 4)]) ⟨_, rfl, rfl, rfl, rfl, rfl, rfl, rfl⟩ h
 obtain ⟨a0, b0, rfl, h0, hf⟩ := hf
 obtain ⟨v0, rfl, k0⟩ := Z5 ⟨_, rfl, rfl, rfl, rfl, rfl, rfl⟩ h0
 obtain ⟨a1, b1, rfl, h1, hf⟩ := hf
 obtain ⟨v1, rfl⟩ := Acd h1
 subst hf
 exact ⟨⟨v0, v1⟩, rfl, k0, trivial⟩
def Ajv : List AV := [.nl, (.sc (.bool false))]
theorem Wu (n : Nat) (hn : 1048576 < n) (x : Oq) (h : O2 x ≤ 1048576) : Di E0 (n + 2) 32 18 [.agg (Id x)] = some (.agg (Id x)) := by
 rw [Be, Ahk, f18]
 simp only [Fx, Fk, Bx, A9, Dz, Wm]
 rw [Qo _ _ _ (Kz x)]
 simp only [zat, zak, zar, za0, za3, Nat.reduceAdd]
 refine Ajp (T := Y5) (C := Id x) (Z := Ajv) (o' := 1) rfl rfl rfl rfl rfl (Acm (n + 0) (by omega) x.fHeld (by unfold O2 at h; omega)) rfl ?_
 refine Ajq (v := .bool x.fBad) (o' := 2) rfl rfl rfl rfl rfl ?_
 exact Aim rfl rfl rfl (Kz x) AaO (Wg 5 x)
theorem AeI (n : Nat) (hn : 1048576 < n) (tb : Nat) (x : Oq) (h : O2 x ≤ 1048576) : Di E0 (n + 2) tb 21 [.agg (Id x), .agg (Id x)] = some (.sc (.bool true)) := by
 rw [Be, Ahl, f21]
 simp only [Fx, Bx, A9, A5, Ik, D8, Aw]
 rw [Qo _ _ _ (Kz x), Qo _ _ _ (Kz x)]
 simp only [zat, zak, zar, za0, za3, Nat.reduceAdd]
 refine Aiz rfl rfl rfl (Abf (n + 0) (by omega) _ x.fHeld (by unfold O2 at h; omega)) ?_
 refine AjO (b := x.fBad) rfl rfl ?_
 rfl
theorem Agp (n : Nat) (hn : 1048576 < n) (ty : Nat) (x : Oq) (hx : X3 x) (left : Int) (h0 : 0 ≤ left) (h1 : left ≤ 1048576) : Di E0 (n + 2) ty 15 [.agg (Id x), .sc (.int .i64 left)] = szA (O2 x) left := by
 obtain ⟨k0, _⟩ := hx
 unfold O2
 rw [Be, Ahj, f15]
 simp only [Fx, Bx, A9, Gr, A5, Aw]
 rw [Qo _ _ _ (Kz x)]
 simp only [zat, zak, zar, za0, za3, Nat.reduceAdd]
 refine Ajr rfl h0 h1 rfl (Ack (n + 0) _ x.fHeld k0 _ h0 h1) rfl fun h0 h1 => ?_
 exact Aio h0
end
section
open Go
variable {β : Type} {n : Nat} {H : Ae} {r : Option β}
theorem Jj : ([] : List AV).mapM (D5 H 8) = some [] := rfl
theorem Ep {x v : AV} {xs vs : List AV} (h : Vw H x v) (hs : xs.mapM (D5 H 8) = some vs) : (x :: xs).mapM (D5 H 8) = some (v :: vs) := by
 simp only [zaG, h.now, hs, zbc, zaM, zad]
theorem Kr {i : Nat} {b : Iy} (h : H[i]? = some b) (X : List Iy) : (H ++ X)[i]? = some b := by
 rw [zal (zae.1 h).1]
 exact h
theorem AhU {cs : List AV} {K : KO β} (hf : cs.all Mw = true) (h : ∀ i, (H ++ [⟨cs, true, true⟩])[i]? = some ⟨cs, true, true⟩ → K (.ptr i 0) (H ++ [⟨cs, true, true⟩]) = r) : Yc (.agg cs) H (fun x H => K x H) = r := by
 rw [Qo cs H _ hf]
 exact h _ (by rw [zai (zam _), zaP]; rfl)
theorem U8 {i w : Nat} {cs : List AV} {K : AV → Option β} (hi : H[i]? = some ⟨cs, true, true⟩) (hw : cs.length = w) (h : K (.agg cs) = r) : D1 true w (.ptr i 0) H (fun x => K x) = r := by
 have e : Bf H i 0 w = some cs := by
  simp only [Bf, hi, if_true, zaS, za3, ← hw, zam, zaJ]
 rw [ldT e]
 exact h
theorem J4 {ty f : Nat} {args vs : List AV} {v : Value} {K : KO β} (hh : Gu f = false) (hv : args.mapM (D5 H 8) = some vs) (ht : Di E0 n ty f vs = some (.sc v)) (h : K (.sc v) H = r) : (PR n β).call ty (.fn f [] []) args H (fun x H => K x H) = r := by
 rw [J6 hh hv ht, H6, zao]
 exact h
theorem Z2 {ty f : Nat} {args vs cs : List AV} {K : KO β} (hh : Gu f = false) (hv : args.mapM (D5 H 8) = some vs) (ht : Di E0 n ty f vs = some (.agg cs)) (hf : cs.all Mw = true) (hok : Iq A4 E0.tp 8 ty (.agg cs)) (h : ∀ X (ys : List AV), ys.length = cs.length → ys.all Bn = true → Vw (H ++ X) (.agg ys) (.agg cs) → K (.agg ys) (H ++ X) = r) : (PR n β).call ty (.fn f [] []) args H (fun x H => K x H) = r := by
 rw [J6 hh hv ht, Je]
 refine h _ _ (L4 _ _ _) (Pd _ _ _ hf) ?_
 have := Ae9 H ty (.agg cs) hok
 rwa [Je] at this
theorem AhW {w : Nat} {z ys : List AV} {K : KO β} (hz : z.length = w) (hy : ys.length = w) (hl : ys.all Bn = true) (h : ∀ i, (H ++ [⟨ys, true, true⟩])[i]? = some ⟨ys, true, true⟩ → K (.ptr i 0) (H ++ [⟨ys, true, true⟩]) = r) :
  Wm z H (fun t H => Gb w t (.agg ys) H fun H => K t H) = r := by
 have hg : (H ++ [(⟨z, true, true⟩ : Iy)])[H.length]? = some ⟨z, true, true⟩ := by rw [zai (zam _), zaP]; rfl
 have hc : Fl (.agg ys) = some ys := by
  show (if ys.all Bn then some ys else none) = _
  rw [if_pos hl]
 show Gb w (.ptr H.length 0) (.agg ys) (H ++ [⟨z, true, true⟩]) _ = r
 rw [Ym w H.length 0 _ ⟨z, true, true⟩ ys _ _ hg hc hy (by rw [hz]; omega) rfl]
 have hs : F6 z 0 ys = ys := by
  unfold F6
  rw [List.take_zero, zak, zbf (by rw [hz, hy]; omega), zao]
 have e : (H ++ [(⟨z, true, true⟩ : Iy)]).set H.length ⟨ys, true, true⟩ = H ++ [⟨ys, true, true⟩] := by
  rw [List.set_append_right _ _ (zam _), zaP]
  rfl
 simp only [hs, e]
 exact h _ (by rw [zai (zam _), zaP]; rfl)
theorem Ajg {ty f W : Nat} {args vs : List AV} {left : Int} {A : Ae → Option β} {K : KO β} (hh : Gu f = false) (hv : args.mapM (D5 H 8) = some vs) (ht : Di E0 n ty f vs = some (.sc (.int .i64 (T6 W left)))) (h0 : 0 ≤ left) (hA : A H = r) (h : (W : Int) ≤ left → K (.sc (.int .i64 (left - W))) H = r) :
  (PR n β).call ty (.fn f [] []) args H (fun t H => En .lss t (.sc (.int .i64 0)) fun t' => Gn t' (A H) (K t H)) = r := by
 rw [J6 hh hv ht, H6, zao]
 simp only
 rw [Tg, Fm]
 by_cases hw : left < W
 ·have e : T6 W left = -1 := by rw [T6, if_pos hw]
  rw [e, if_pos (by decide)]
  exact hA
 ·have e : T6 W left = left - W := by rw [T6, if_neg hw]
  rw [e, if_neg (by simpa using (show ¬ left - (W : Int) < 0 by omega))]
  exact h (by omega)
theorem AhV {b : Bool} {A K : Option β} (h : K = r) : (Ow .neq (.sc (.bool b)) (.sc (.bool b)) fun t => Gn t A K) = r := by
 simp only [Ow, asB, zad, binB, beq_self_eq_true, zav]
 exact h
theorem Ajf {ty f : Nat} {args vs : List AV} {A : Ae → Option β} {K : Ae → Option β} (hh : Gu f = false) (hv : args.mapM (D5 H 8) = some vs) (ht : Di E0 n ty f vs = some (.sc (.bool true))) (h : K H = r) : (PR n β).call ty (.fn f [] []) args H (fun t H => pUn .not t fun t' => Gn t' (A H) (K H)) = r := by
 rw [J6 hh hv ht, H6, zao]
 exact h
theorem Agv (a b : Int) (k : AV → Option β) : En .eql (.sc (.int .i64 a)) (.sc (.int .i64 b)) k = k (.sc (.bool (a == b))) := rfl
theorem X0 (a b : Int) (k : AV → Option β) : En .leq (.sc (.int .i64 a)) (.sc (.int .i64 b)) k = k (.sc (.bool (decide (a ≤ b)))) := rfl
theorem AiZ (a b : Int) (k : AV → Option β) : En .gtr (.sc (.int .i64 a)) (.sc (.int .i64 b)) k = k (.sc (.bool (decide (a > b)))) := rfl
theorem Aal (a b : Int) (k : AV → Option β) : En .add (.sc (.int .i64 a)) (.sc (.int .i64 b)) k = k (.sc (.int .i64 (IntKind.i64.wrap (a + b)))) := rfl
theorem Ajh (a b : Int) (k : AV → Option β) : En .mul (.sc (.int .i64 a)) (.sc (.int .i64 b)) k = k (.sc (.int .i64 (IntKind.i64.wrap (a * b)))) := rfl
theorem Tc (s : ByteArray) (k : AV → Option β) : Vl (.sc (.string s)) k = k (.sc (.int .i64 s.size)) := rfl
theorem Wh {ty : Nat} {cty : List Nat} {cs : List AV} (hty : ∃ i, A4 ty = some i ∧ i.cty = cty) (h : Hg (Iq A4 E0.tp 7) cty cs) : Iq A4 E0.tp 8 ty (.agg cs) := by
 obtain ⟨i, hi, rfl⟩ := hty
 exact ⟨i, hi, h⟩
end
section
open Go
section
variable {β : Type} {n : Nat} {H : Ae} {r : Option β} {K : AV → Option β} {KH : KO β}
theorem AaQ {cs : List AV} (hf : cs.all Mw = true) (h : ∀ i, i = H.length → (H ++ [⟨cs, true, true⟩])[i]? = some ⟨cs, true, true⟩ → KH (.ptr i 0) (H ++ [⟨cs, true, true⟩]) = r) : Yc (.agg cs) H (fun x H => KH x H) = r := by
 rw [Qo cs H _ hf]
 exact h _ rfl (by rw [zai (zam _), zaP]; rfl)
theorem Ba {o id off : Nat} (h : K (.ptr id (off + o)) = r) : G9 o (.ptr id off) (fun x => K x) = r := h
theorem C9 {i off : Nat} {cs : List AV} {c : AV} (hi : H[i]? = some ⟨cs, true, true⟩) (hl : off < cs.length) (hc : (cs.drop off).take 1 = [c]) (h : K c = r) : D1 false 1 (.ptr i off) H (fun x => K x) = r := by
 have e : Bf H i off 1 = some [c] := by
  simp only [Bf, hi, if_true]
  rw [if_pos (by omega), hc]
 rw [ldF e]
 exact h
theorem Du {op : BinOp} {x y v : AV} (e : ∀ k : AV → Option β, En op x y k = k v) (h : K v = r) : En op x y (fun t => K t) = r := (e _).trans h
theorem H4 {op : BinOp} {x y v : AV} (e : ∀ k : AV → Option β, Ow op x y k = k v) (h : K v = r) : Ow op x y (fun t => K t) = r := (e _).trans h
theorem Vs {b : Bool} (h : K (.sc (.bool (!b))) = r) : pUn .not (.sc (.bool b)) (fun t => K t) = r := h
theorem Ae2 {s : ByteArray} (h : K (.sc (.int .i64 s.size)) = r) : Vl (.sc (.string s)) (fun t => K t) = r := h
theorem Me {m : Nat} {cs : List AV} (h : K (.sc (.int .i64 m)) = r) : L9 (.ro m cs) (fun t => K t) = r := h
theorem Aa {g : Prop} (b : Bool) (ht : b = true → g) (hf : b = false → g) : g := by
 cases h : b
 ·exact hf h
 ·exact ht h
theorem Ot {b : Bool} {x y : Option β} (hb : b = true) (h : x = r) : Gn (.sc (.bool b)) x y = r := by subst hb; exact h
theorem Ra {b : Bool} {x y : Option β} (hb : b = false) (h : y = r) : Gn (.sc (.bool b)) x y = r := by subst hb; exact h
theorem A3 {b : Bool} {m : (KO β) → Option β} (hb : b = true) (h : m (fun x H => KH x H) = r) : Jg (.sc (.bool b)) true H m (fun x H => KH x H) = r := by subst hb; exact h
theorem A2 {b : Bool} {m : (KO β) → Option β} (hb : b = false) (h : KH (.sc undef) H = r) : Jg (.sc (.bool b)) true H m (fun x H => KH x H) = r := by subst hb; exact h
theorem H8 {b : Bool} {m : (KO β) → Option β} (hb : b = false) (h : m (fun x H => KH x H) = r) : Jg (.sc (.bool b)) false H m (fun x H => KH x H) = r := by subst hb; exact h
theorem I1 {b : Bool} {m : (KO β) → Option β} (hb : b = true) (h : KH (.sc undef) H = r) : Jg (.sc (.bool b)) false H m (fun x H => KH x H) = r := by subst hb; exact h
theorem Acp {b : Bool} {x y : AV} (hb : b = true) (h : K x = r) : N2 (.sc (.bool b)) x y (fun t => K t) = r := by
 subst hb
 cases x <;> cases y <;> exact h
theorem Aah {b : Bool} {x y : AV} (hb : b = false) (h : K y = r) : N2 (.sc (.bool b)) x y (fun t => K t) = r := by
 subst hb
 cases x <;> cases y <;> exact h
def Iz {α : Type} (p : α → α → Bool) : List α → List α → Bool
 | x :: a, y :: b => if p x y then Iz p a b else false
 | _, _ => true
theorem Ku {α : Type} {w : Nat} (enc : α → List AV) (hw : ∀ x, (enc x).length = w) (h0 : 0 < w) (pk : α → AV) (LOAD : AV → (AV → Option β) → Option β) (hld : ∀ x rest k, LOAD (.rp (enc x ++ rest)) k = k (pk x)) (NE : AV → AV → (AV → Option β) → Option β) (pr : α → α → Bool) (hne : ∀ x y k, NE (pk x) (pk y) k = k (.sc (.bool (!(pr x y)))))
  (l q : List α) (hlq : l.length = q.length) (hlen : l.length ≤ 1048576) (L : Nat → AV → Option β) (KF KT : Option β)
  (hL : ∀ m i, L (m + 1) i = En .lss i (.sc (.int .i64 l.length)) fun t14 => Gn t14 (Fv w (Dk enc l) i fun t19 => LOAD t19 fun t20 => Fv w (Dk enc q) i fun t23 => LOAD t23 fun t24 => NE t20 t24 fun t25 => Gn t25 KF (En .add i (.sc (.int .i64 1)) fun t16 => L m t16)) KT) :
  ∀ (s t pl pq : List α) (m : Nat), l = pl ++ s → q = pq ++ t → pl.length = pq.length → s.length < m → L m (.sc (.int .i64 pl.length)) = if Iz pr s t then KT else KF
 | [], t, pl, pq, m + 1, hl, hq, hpp, hm => by
  rw [zao] at hl
  subst hl
  rw [hL, Ke, Fm]
  cases t <;> simp [Iz]
 | x :: s, [], pl, pq, m + 1, hl, hq, hpp, hm => by
  have h1 := congrArg List.length hl
  have h2 := congrArg List.length hq
  simp only [zag, zar, zat] at h1 h2
  omega
 | x :: s, y :: t, pl, pq, m + 1, hl, hq, hpp, hm => by
  have hlt : pl.length < l.length := by rw [hl]; simp
  rw [hL, Ke, Fm, if_pos (by simpa using hlt)]
  have hel := fun k => Ac2 (β := β) hw h0 pl x s k
  rw [← hl] at hel
  have heq := fun k => Ac2 (β := β) hw h0 pq y t k
  rw [← hq, ← hpp] at heq
  rw [hel, hld, heq, hld, hne, Fm, Iz]
  cases hpx : pr x y
  ·simp
  ·simp only [zav, zaa, if_false, if_true]
   rw [Ia _ _ (by omega)]
   have ih := Ku enc hw h0 pk LOAD hld NE pr hne l q hlq hlen L KF KT hL s t (pl ++ [x]) (pq ++ [y]) m (by rw [hl]; simp) (by rw [hq]; simp) (by simp [hpp]) (by simpa using hm)
   rw [zag, zan] at ih
   exact ih
def Sv (z : Int) : List AV := [.sc (.int .i64 z)]
def Sw (s : ByteArray) : List AV := [.sc (.string s)]
theorem Km (l : List Int) : E1 l = Dk Sv l := by
 rw [Dk, show (Sv) = fun z => [AV.sc (.int .i64 z)] from rfl, Pu]
theorem Kp (l : List ByteArray) : E3 l = Dk Sw l := by
 rw [Dk, show (Sw) = fun z => [AV.sc (.string z)] from rfl, Pu]
theorem ldI (z : Int) (rest : List AV) (H : Ae) (k : AV → Option β) : D1 false 1 (.rp (Sv z ++ rest)) H k = k (.sc (.int .i64 z)) := Pe _ _ _ _
theorem ldS (z : ByteArray) (rest : List AV) (H : Ae) (k : AV → Option β) : D1 false 1 (.rp (Sw z ++ rest)) H k = k (.sc (.string z)) := Pe _ _ _ _
def Xj (x y : Int) : Bool := x == y
def Qq (x y : ByteArray) : Bool := x.toList == y.toList
def Gz {α : Type} (p : α → α → Bool) (a b : List α) : Bool := if a.length = b.length then Iz p a b else false
theorem neI (x y : Int) (k : AV → Option β) : En .neq (.sc (.int .i64 x)) (.sc (.int .i64 y)) k = k (.sc (.bool (!(Xj x y)))) := rfl
theorem neS (x y : ByteArray) (k : AV → Option β) : En .neq (.sc (.string x)) (.sc (.string y)) k = k (.sc (.bool (!(Qq x y)))) := rfl
theorem Aao (qs : List Nat) (cs ds : List AV) (b : Bool) (h : Lc qs cs ds = some b) (k : AV → Option β) : Qc .neq qs (.agg cs) (.agg ds) k = k (.sc (.bool (!b))) := by
 simp only [Qc, h, zad]
theorem B9 {X : Option β} (e : Bool) {K : Bool → Option β} (h1 : ∀ b, b = e → X = K b) (h2 : ∀ b, b = e → K b = r) : X = r := (h1 e rfl).trans (h2 e rfl)
theorem Dw {c v b : Bool} {y : AV} (hc : c = true) (hv : v = b) (h : K (.sc (.bool b)) = r) : N2 (.sc (.bool c)) (.sc (.bool v)) y (fun t => K t) = r := by
 subst hc
 subst hv
 cases y <;> exact h
theorem Dv {c v b : Bool} {x : AV} (hc : c = false) (hv : v = b) (h : K (.sc (.bool b)) = r) : N2 (.sc (.bool c)) x (.sc (.bool v)) (fun t => K t) = r := by
 subst hc
 subst hv
 cases x <;> exact h
theorem Ix {b c v : Bool} (hb : b = (c && v)) (h : c = true) : v = b := by rw [hb, h]; rfl
theorem Iw {b c v : Bool} (hb : b = (c && v)) (h : c = false) : false = b := by rw [hb, h]; rfl
theorem mOT {b c v : Bool} (hb : b = (c || v)) (h : c = true) : true = b := by rw [hb, h]; rfl
theorem mOF {b c v : Bool} (hb : b = (c || v)) (h : c = false) : v = b := by rw [hb, h]; rfl
theorem Ug {ty : Nat} {b b' : Bool} (h : b = b') : Bm A4 E0.tp ty H (.sc (.bool b)) = some (.sc (.bool b')) := by subst h; rfl
theorem Acs {ty : Nat} {f : FuncId} {caps args vs : List AV} {t : AV} {k : KO β} (hh : Gu f = false) (hv : (args ++ caps).mapM (D5 H 8) = some vs) (ht : Di E0 n ty f vs = some t) :
  (PR n β).call ty (.fn f [] caps) args H k = k (Dd A4 E0.tp H.length ty t).1 (H ++ (Dd A4 E0.tp H.length ty t).2) := by
 show M7 E0 (Ff E0 n) ty f ([] ++ args ++ caps) H k = _
 simp only [M7, Vn hh, Ye hh, zak, zaa, if_false, Xd, hv, zad]
 have ht : Q8 E0 (Ff E0 n) ty f vs = some t := ht
 rw [ht]
 rfl
theorem AgM (s : ByteArray) (i : Nat) (b : UInt8) (k : AV → Option β) (h : s.data.toList[i]? = some b) : Aea (.sc (.string s)) (.sc (.int .i64 i)) k = k (.sc (.int .u8 b.toNat)) := by
 have hlt : i < s.size := by
  have := (zae.1 h).1
  simpa using this
 have hb : s[i]'hlt = b := by
  have := (zae.1 h).2
  simp only [Array.getElem_toList] at this
  exact this
 simp only [Aea, Yx, asS, zad, zbz]
 rw [dif_pos ⟨by omega, hlt⟩, hb]
theorem nT {b : Bool} (h : b = false) : (!b) = true := by rw [h]; rfl
theorem nF {b : Bool} (h : b = true) : (!b) = false := by rw [h]; rfl
end
end
section
open Go
def B6 (x lo hi : Int) : Bool := decide (lo ≤ x) && decide (x ≤ hi)
theorem Gm (n : Nat) (ty : Nat) (x : Int) (lo : Int) (hi : Int) : Di E0 (n + 1) ty 81 [.sc (.int .i64 x), .sc (.int .i64 lo), .sc (.int .i64 hi)] = some (.sc (.bool (B6 x lo hi))) := by
 rw [Be, Ah6, f81]
 try simp only [Fx, Fk, Bx, A9, Dz, A5, Ik, J5, D8, Aw, Bg, Pr.gT, Pr.gF, Pr.hT, Pr.hF, Pr.kT, Pr.kF, Bv, B3, Gr, Bw, Mi, G4, Ii, Cz, C2, N9, D3, Dm, Gg]
 refine Du (v := sb (decide (x ≥ lo))) (fun k => rfl) ?_
 apply B9 ((decide (x ≥ lo)) && (decide (x ≤ hi)))
 intro b1 q1
 refine Aa ((decide (x ≥ lo))) (fun h1 => ?_) (fun h1 => ?_)
 exact A3 h1 (A3 h1 (A3 h1 (Du (v := sb (decide (x ≤ hi))) (fun k => rfl) (Dw h1 (Ix q1 h1) rfl))))
 exact A2 h1 (A2 h1 (A2 h1 (Dv h1 (Iw q1 h1) rfl)))
 intro b1 q1
 exact Ug (by first | (simp_all [B6]; done) | (rw [zb6]; simp [B6] at *; omega))
theorem Hl (n : Nat) (ty : Nat) (x : Int) (lo : Int) (hi : Int) : Di E0 (n + 1) ty 98 [.sc (.int .i64 x), .sc (.int .i64 lo), .sc (.int .i64 hi)] = some (.sc (.bool (B6 x lo hi))) := by
 rw [Be, AhJ, f98]
 try simp only [Fx, Fk, Bx, A9, Dz, A5, Ik, J5, D8, Aw, Bg, Pr.gT, Pr.gF, Pr.hT, Pr.hF, Pr.kT, Pr.kF, Bv, B3, Gr, Bw, Mi, G4, Ii, Cz, C2, N9, D3, Dm, Gg]
 refine Du (v := sb (decide (x ≥ lo))) (fun k => rfl) ?_
 apply B9 ((decide (x ≥ lo)) && (decide (x ≤ hi)))
 intro b1 q1
 refine Aa ((decide (x ≥ lo))) (fun h1 => ?_) (fun h1 => ?_)
 exact A3 h1 (A3 h1 (A3 h1 (Du (v := sb (decide (x ≤ hi))) (fun k => rfl) (Dw h1 (Ix q1 h1) rfl))))
 exact A2 h1 (A2 h1 (A2 h1 (Dv h1 (Iw q1 h1) rfl)))
 intro b1 q1
 exact Ug (by first | (simp_all [B6]; done) | (rw [zb6]; simp [B6] at *; omega))
theorem P4 (n : Nat) (ty : Nat) (s t : ByteArray) : Di E0 (n + 1) ty 65 [Ai s, Ai t] = some (.sc (.bool (s.toList == t.toList))) := by
 rw [Be, Ahx, f65]
 have e : ∀ u : ByteArray, Ej [] 1 (.ro u.size (Bp u)) = some (Bp u) := by
  intro u
  simp [Ej, Fb]
 have eb : ∀ u : ByteArray, (Bp u).mapM Ks = some u.data.toList := fun u => Mk _
 simp only [Gg, A5, Rr, e, eb, zad, En, AaU]
 simp
theorem Jo (n : Nat) (ty : Nat) (s t : ByteArray) : Di E0 (n + 1) ty 71 [Ai s, Ai t] = some (.sc (.bool (s.toList == t.toList))) := by
 rw [Be, Ah3, f71]
 have e : ∀ u : ByteArray, Ej [] 1 (.ro u.size (Bp u)) = some (Bp u) := by
  intro u
  simp [Ej, Fb]
 have eb : ∀ u : ByteArray, (Bp u).mapM Ks = some u.data.toList := fun u => Mk _
 simp only [Gg, A5, Rr, e, eb, zad, En, AaU]
 simp
end
section
open Go
theorem Aiu : ∀ X : Fin 256, bits .and .i64 ((X.val : Nat) : Int) 31 = ((X.val % 32 : Nat) : Int) := by decide +kernel
theorem Ait : ∀ X : Fin 256, bits .and .i64 ((X.val : Nat) : Int) 15 = ((X.val % 16 : Nat) : Int) := by decide +kernel
theorem Aiv : ∀ X : Fin 256, bits .and .i64 ((X.val : Nat) : Int) 7 = ((X.val % 8 : Nat) : Int) := by decide +kernel
def Q5 (d : Nat × Nat) (i : Nat) : AV := if d.1 = 65533 ∧ d.2 = 1 then .tup [.sc (.int .i64 0), .sc (.int .i64 0), .sc (.bool false)] else .tup [.sc (.int .i64 d.1), .sc (.int .i64 ((i + d.2 : Nat) : Int)), .sc (.bool true)]
def Zt : AV := .tup [.sc (.int .i64 0), .sc (.int .i64 0), .sc (.bool false)]
theorem Agu (s : ByteArray) (i : Nat) (h : i < s.size) (H : Ae) (k : AV → Option AV) : (Fv 1 (Ai s) (.sc (.int .i64 i)) fun t => D1 false 1 t H k) = k (.sc (.int .u8 (s.data.toList.getD i 0).toNat)) := by
 rw [Of 1 _ _ i _ h (by rw [Fb]; omega)]
 have hl : i < s.data.toList.length := by simpa using h
 have hd : (Bp s).drop (i * 1) = .sc (.int .u8 (s.data.toList.getD i 0).toNat) :: (Bp s).drop (i + 1) := by
  rw [zbt, zaA (by rw [Fb]; omega)]
  congr 1
  simp [Bp, zbq, h]
 rw [hd, Pe]
section loop
variable (n : Nat) (k : AV → Ae → Option AV) (H : Ae) (s : ByteArray)
theorem Kn (m at' N v i : Nat) (least : Int) (hi : i ≤ N) (hb : at' + i < s.size) (hN : N ≤ 3) (hv : v < 100000000) (hs : s.size ≤ 1048576) :
  Io (PR n AV) n k (m + 1) (Ai s) (si at') (si N) (si least) (si v) (si i) H =
   if (s.data.toList.getD (at' + i) 0).toNat / 64 = 2 then Io (PR n AV) n k m (Ai s) (si at') (si N) (si least) (si ((v * 64 + (s.data.toList.getD (at' + i) 0).toNat % 64 : Nat) : Int)) (si ((i + 1 : Nat) : Int)) H else k Zt H := by
 obtain ⟨y, hy⟩ : ∃ y, (s.data.toList.getD (at' + i) 0).toNat = y := ⟨_, rfl⟩
 have hylt : y < 256 := by rw [← hy]; exact (s.data.toList.getD (at' + i) 0).toNat_lt
 have hba := Agu s (at' + i) hb H
 rw [hy] at hba ⊢
 rw [Io]
 simp only [A5, Aw, Bw, A9, Dm, Bg, Pr.gT, Pr.gF, Pr.hT, Pr.hF, Pr.kT, Pr.kF, Bv]
 rw [X0, Fm, if_pos (by simp; omega), Aal, ← Int.natCast_add, Iv _ (by omega) (by omega), hba]
 simp only [Z7, Yx, zad]
 rw [Iv _ (by omega) (by omega), Tg]
 by_cases h1 : y < 128
 refine I1 (by simp; omega) (I1 (by simp; omega) (Acp (by simp; omega) ?_))
 rw [if_neg (by omega)]
 rfl
 refine H8 (by simp; omega) (H8 (by simp; omega) ?_)
 rw [AiZ]
 refine Aah (by simp; omega) ?_
 by_cases h2 : y ≤ 191
 rw [Fm, if_neg (by simp; omega), if_pos (by omega), Ajh, show (v : Int) * 64 = ((v * 64 : Nat) : Int) by omega, Iv _ (by omega) (by omega), Aal, ← Int.natCast_add, Iv _ (by omega) (by omega), R0 _ _ _ (by omega) (by omega), Ia _ _ (by omega)]
 congr 3
 omega
 rw [Fm, if_pos (by simp; omega), if_neg (by omega)]
 rfl
theorem Tw (n' : Nat) (hnn : n = n' + 1) (m at' N v least : Nat) (hN : N ≤ 3) (hv : v < 100000000) (ha : at' ≤ 1048576) :
  Io (PR n AV) n k (m + 1) (Ai s) (si at') (si N) (si least) (si v) (si ((N + 1 : Nat) : Int)) H =
   if v ≥ least ∧ (v < 55296 ∨ (57344 ≤ v ∧ v ≤ 1114111)) then k (.tup [si v, si ((at' + (N + 1) : Nat) : Int), bT]) H else k Zt H := by
 subst hnn
 rw [Io]
 simp only [A5, Aw, Bw, A9, Dm, Bg, Pr.gT, Pr.gF, Pr.hT, Pr.hF, Pr.kT, Pr.kF, Bv]
 rw [X0, Fm, if_neg (by simp; omega), Tg]
 by_cases h1 : v < least
 have e : decide ((v : Int) < (least : Int)) = true := by simp; omega
 refine I1 e (I1 e (Acp e (I1 rfl (I1 rfl (Acp rfl (Ot rfl ?_))))))
 rw [if_neg (by omega)]
 rfl
 have e : decide ((v : Int) < (least : Int)) = false := by simp; omega
 refine H8 e (H8 e (Du (v := sb (decide ((v : Int) > 1114111))) (fun k => rfl) (Aah e ?_)))
 by_cases h2 : v > 1114111
 have e2 : decide ((v : Int) > 1114111) = true := by simp; omega
 refine I1 e2 (I1 e2 (Acp e2 (Ot rfl ?_)))
 rw [if_neg (by omega)]
 rfl
 have e2 : decide ((v : Int) > 1114111) = false := by simp; omega
 refine H8 e2 (H8 e2 (J4 rfl (Ep (I4 _ _) (Ep (I4 _ _) (Ep (I4 _ _) Jj))) (Gm n' _ v 55296 57343) (Aah e2 ?_)))
 by_cases h3 : 55296 ≤ v ∧ v ≤ 57343
 refine Ot (by simp [B6]; omega) ?_
 rw [if_neg (by omega)]
 rfl
 refine Ra (by simp [B6]; omega) ?_
 have e5 : ((at' : Int) + 1 + (N : Int)) = ((at' + (N + 1) : Nat) : Int) := by omega
 rw [if_pos (by omega), Aal, Iv _ (by omega) (by omega), Aal, Iv _ (by omega) (by omega), e5]
 rfl
end loop
theorem Fn (H : Ae) (a b c : Value) : Bm A4 E0.tp 110 H (.tup [.sc a, .sc b, .sc c]) = some (.tup [.sc a, .sc b, .sc c]) := rfl
set_option maxHeartbeats 1600000 in
theorem Agh (n : Nat) (hn : 1048576 < n) (s : ByteArray) (i : Nat) (hs : s.size ≤ 1048576) (hi : i < s.size) : Di E0 (n + 2) 110 143 [Ai s, .sc (.int .i64 i)] = some (Q5 (Lib.decodeL (s.data.toList.drop i)) i) := by
 have hg : ∀ j, (s.data.toList.drop i).getD j 0 = s.data.toList.getD (i + j) 0 := fun j => by simp [zbq, zbb]
 have hL : (s.data.toList.drop i).length = s.size - i := by simp
 have hg0 : (s.data.toList.drop i).getD 0 0 = s.data.toList.getD i 0 := hg 0
 rw [Lib.decodeL_N, hL, hg0, hg 1, hg 2, hg 3]
 obtain ⟨x, hx⟩ : ∃ x, (s.data.toList.getD i 0).toNat = x := ⟨_, rfl⟩
 have hxl : x < 256 := by rw [← hx]; exact (s.data.toList.getD i 0).toNat_lt
 obtain ⟨y1, hy1⟩ : ∃ x, (s.data.toList.getD (i + 1) 0).toNat = x := ⟨_, rfl⟩
 obtain ⟨y2, hy2⟩ : ∃ x, (s.data.toList.getD (i + 2) 0).toNat = x := ⟨_, rfl⟩
 obtain ⟨y3, hy3⟩ : ∃ x, (s.data.toList.getD (i + 3) 0).toNat = x := ⟨_, rfl⟩
 have b1 : y1 < 256 := by rw [← hy1]; exact (s.data.toList.getD (i + 1) 0).toNat_lt
 have b2 : y2 < 256 := by rw [← hy2]; exact (s.data.toList.getD (i + 2) 0).toNat_lt
 have b3 : y3 < 256 := by rw [← hy3]; exact (s.data.toList.getD (i + 3) 0).toNat_lt
 have hba := Agu s i hi []
 rw [hx] at hba
 rw [hx, hy1, hy2, hy3]
 have fails : Lib.decodeN (s.size - i) x y1 y2 y3 = (65533, 1) → some Zt = some (Q5 (Lib.decodeN (s.size - i) x y1 y2 y3) i) := fun h => by rw [h]; rfl
 have goes : ∀ v w, Lib.decodeN (s.size - i) x y1 y2 y3 = (v, w) → (w = 1 → v < 128) → some (.tup [si v, si ((i + w : Nat) : Int), bT]) = some (Q5 (Lib.decodeN (s.size - i) x y1 y2 y3) i) := fun v w h hw => by
  rw [h, Q5, if_neg (by intro h; simp only at h; omega)]
 rw [Be, Afp, f143]
 simp only [A5, Aw, Bw, A9, Dm, Bg, Pr.gT, Pr.gF, Pr.hT, Pr.hF, Pr.kT, Pr.kF, Bv, B3]
 have e0 : decide ((i : Int) < 0) = false := by simp
 rw [Tg]
 refine H8 e0 (H8 e0 (H8 e0 (Me (H8 e0 (Du (v := .sc (.bool (decide ((i : Int) ≥ (s.size : Int))))) (fun k => rfl) (Aah e0 (Ra (by simp; omega) ?_)))))))
 rw [hba]
 simp only [Z7, Yx, zad]
 rw [Iv _ (by omega) (by omega), Tg]
 by_cases c1 : x < 128
 refine Ot (by simp; omega) ?_
 rw [Ia _ _ (by omega)]
 exact (Fn _ _ _ _).trans (goes x 1 (by rw [Lib.decodeN, if_pos c1]) (fun _ => c1))
 refine Ra (by simp; omega) ?_
 obtain ⟨q, rfl⟩ : ∃ q, n = q + 4 := ⟨n - 4, by omega⟩
 apply B9 (decide ((x : Int) ≥ 192) && decide ((x : Int) < 224))
 intro b hb
 refine Du (v := sb (decide ((x : Int) ≥ 192))) (fun k => rfl) (Aa (decide ((x : Int) ≥ 192)) (fun h => ?_) (fun h => ?_))
 exact A3 h (A3 h (Du (v := sb (decide ((x : Int) < 224))) (fun k => rfl) (Dw h (Ix hb h) rfl)))
 exact A2 h (A2 h (Dv h (Iw hb h) rfl))
 intro b0 hb0
 by_cases d0 : 192 ≤ x ∧ x < 224
 refine Ot (by rw [hb0]; simp; omega) (Du (v := .sc (.int .i64 ((x % 32 : Nat) : Int))) (fun k => by show k (.sc (.int .i64 (bits .and .i64 (x : Int) 31))) = _; rw [Aiu ⟨x, hxl⟩]) (Me (Du (v := .sc (.int .i64 ((s.size : Int) - 1))) (fun k => R0 _ _ _ (by omega) (by omega)) (Du (v := .sc (.int .i64 ((s.size : Int) - 1 - 1))) (fun k => R0 _ _ _ (by omega) (by omega)) (Du (v := .sc (.bool (decide ((i : Int) > (s.size : Int) - 1 - 1)))) (fun k => rfl) ?_)))))
 by_cases c3 : i + 1 < s.size
 ·refine Ra (by simp; omega) ?_
  have r1 := Kn (q + 4 + 1) (fun x H => Bm A4 E0.tp 110 H x) [] s (q + 4) i 1 (x % 32) 1 128 (by omega) (by omega) (by omega) (by omega) hs
  rw [hy1] at r1
  refine r1.trans ?_
  by_cases k1 : y1 / 64 = 2
  rotate_left
  rw [if_neg k1]
  exact (Fn _ _ _ _).trans (fails (by unfold Lib.decodeN; rw [if_neg c1, if_neg (by omega), if_neg (by omega), if_neg (by omega)]))
  rw [if_pos k1]
  refine (Tw (q + 4 + 1) (fun x H => Bm A4 E0.tp 110 H x) [] s (q + 4) rfl (q + 3) i 1 ((x % 32) * 64 + y1 % 64) 128 (by omega) (by omega) (by omega)).trans ?_
  have hv : (x % 32) * 64 + y1 % 64 = x % 32 * 64 + y1 % 64 := by omega
  rw [hv]
  split
  exact (Fn _ _ _ _).trans (goes _ 2 (by unfold Lib.decodeN; rw [if_neg c1, if_pos (by omega), if_pos (by omega)]) (by omega))
  exact (Fn _ _ _ _).trans (fails (by unfold Lib.decodeN; rw [if_neg c1, if_pos (by omega), if_neg (by omega)]))
 exact Ot (by simp; omega) ((Fn _ _ _ _).trans (fails (by unfold Lib.decodeN; rw [if_neg c1, if_neg (by omega), if_neg (by omega), if_neg (by omega)])))
 refine Ra (by rw [hb0]; simp; omega) ?_
 apply B9 (decide ((x : Int) ≥ 224) && decide ((x : Int) < 240))
 intro b hb
 refine Du (v := sb (decide ((x : Int) ≥ 224))) (fun k => rfl) (Aa (decide ((x : Int) ≥ 224)) (fun h => ?_) (fun h => ?_))
 exact A3 h (A3 h (Du (v := sb (decide ((x : Int) < 240))) (fun k => rfl) (Dw h (Ix hb h) rfl)))
 exact A2 h (A2 h (Dv h (Iw hb h) rfl))
 intro b1 hb1
 by_cases d1 : 224 ≤ x ∧ x < 240
 refine Ot (by rw [hb1]; simp; omega) (Du (v := .sc (.int .i64 ((x % 16 : Nat) : Int))) (fun k => by show k (.sc (.int .i64 (bits .and .i64 (x : Int) 15))) = _; rw [Ait ⟨x, hxl⟩]) (Me (Du (v := .sc (.int .i64 ((s.size : Int) - 1))) (fun k => R0 _ _ _ (by omega) (by omega)) (Du (v := .sc (.int .i64 ((s.size : Int) - 1 - 2))) (fun k => R0 _ _ _ (by omega) (by omega)) (Du (v := .sc (.bool (decide ((i : Int) > (s.size : Int) - 1 - 2)))) (fun k => rfl) ?_)))))
 by_cases c3 : i + 2 < s.size
 ·refine Ra (by simp; omega) ?_
  have r1 := Kn (q + 4 + 1) (fun x H => Bm A4 E0.tp 110 H x) [] s (q + 4) i 2 (x % 16) 1 2048 (by omega) (by omega) (by omega) (by omega) hs
  rw [hy1] at r1
  refine r1.trans ?_
  by_cases k1 : y1 / 64 = 2
  rotate_left
  rw [if_neg k1]
  exact (Fn _ _ _ _).trans (fails (by unfold Lib.decodeN; rw [if_neg c1, if_neg (by omega), if_neg (by omega), if_neg (by omega)]))
  rw [if_pos k1]
  have r2 := Kn (q + 4 + 1) (fun x H => Bm A4 E0.tp 110 H x) [] s (q + 3) i 2 ((x % 16) * 64 + y1 % 64) 2 2048 (by omega) (by omega) (by omega) (by omega) hs
  rw [hy2] at r2
  refine r2.trans ?_
  by_cases k2 : y2 / 64 = 2
  rotate_left
  rw [if_neg k2]
  exact (Fn _ _ _ _).trans (fails (by unfold Lib.decodeN; rw [if_neg c1, if_neg (by omega), if_neg (by omega), if_neg (by omega)]))
  rw [if_pos k2]
  refine (Tw (q + 4 + 1) (fun x H => Bm A4 E0.tp 110 H x) [] s (q + 4) rfl (q + 2) i 2 (((x % 16) * 64 + y1 % 64) * 64 + y2 % 64) 2048 (by omega) (by omega) (by omega)).trans ?_
  have hv : ((x % 16) * 64 + y1 % 64) * 64 + y2 % 64 = x % 16 * 4096 + y1 % 64 * 64 + y2 % 64 := by omega
  rw [hv]
  split
  exact (Fn _ _ _ _).trans (goes _ 3 (by unfold Lib.decodeN; rw [if_neg c1, if_neg (by omega), if_pos (by omega), if_pos (by omega)]) (by omega))
  exact (Fn _ _ _ _).trans (fails (by unfold Lib.decodeN; rw [if_neg c1, if_neg (by omega), if_pos (by omega), if_neg (by omega)]))
 exact Ot (by simp; omega) ((Fn _ _ _ _).trans (fails (by unfold Lib.decodeN; rw [if_neg c1, if_neg (by omega), if_neg (by omega), if_neg (by omega)])))
 refine Ra (by rw [hb1]; simp; omega) ?_
 apply B9 (decide ((x : Int) ≥ 240) && decide ((x : Int) < 248))
 intro b hb
 refine Du (v := sb (decide ((x : Int) ≥ 240))) (fun k => rfl) (Aa (decide ((x : Int) ≥ 240)) (fun h => ?_) (fun h => ?_))
 exact A3 h (A3 h (Du (v := sb (decide ((x : Int) < 248))) (fun k => rfl) (Dw h (Ix hb h) rfl)))
 exact A2 h (A2 h (Dv h (Iw hb h) rfl))
 intro b2 hb2
 by_cases d2 : 240 ≤ x ∧ x < 248
 refine Ot (by rw [hb2]; simp; omega) (Du (v := .sc (.int .i64 ((x % 8 : Nat) : Int))) (fun k => by show k (.sc (.int .i64 (bits .and .i64 (x : Int) 7))) = _; rw [Aiv ⟨x, hxl⟩]) (Me (Du (v := .sc (.int .i64 ((s.size : Int) - 1))) (fun k => R0 _ _ _ (by omega) (by omega)) (Du (v := .sc (.int .i64 ((s.size : Int) - 1 - 3))) (fun k => R0 _ _ _ (by omega) (by omega)) (Du (v := .sc (.bool (decide ((i : Int) > (s.size : Int) - 1 - 3)))) (fun k => rfl) ?_)))))
 by_cases c3 : i + 3 < s.size
 ·refine Ra (by simp; omega) ?_
  have r1 := Kn (q + 4 + 1) (fun x H => Bm A4 E0.tp 110 H x) [] s (q + 4) i 3 (x % 8) 1 65536 (by omega) (by omega) (by omega) (by omega) hs
  rw [hy1] at r1
  refine r1.trans ?_
  by_cases k1 : y1 / 64 = 2
  rotate_left
  rw [if_neg k1]
  exact (Fn _ _ _ _).trans (fails (by unfold Lib.decodeN; rw [if_neg c1, if_neg (by omega), if_neg (by omega), if_neg (by omega)]))
  rw [if_pos k1]
  have r2 := Kn (q + 4 + 1) (fun x H => Bm A4 E0.tp 110 H x) [] s (q + 3) i 3 ((x % 8) * 64 + y1 % 64) 2 65536 (by omega) (by omega) (by omega) (by omega) hs
  rw [hy2] at r2
  refine r2.trans ?_
  by_cases k2 : y2 / 64 = 2
  rotate_left
  rw [if_neg k2]
  exact (Fn _ _ _ _).trans (fails (by unfold Lib.decodeN; rw [if_neg c1, if_neg (by omega), if_neg (by omega), if_neg (by omega)]))
  rw [if_pos k2]
  have r3 := Kn (q + 4 + 1) (fun x H => Bm A4 E0.tp 110 H x) [] s (q + 2) i 3 (((x % 8) * 64 + y1 % 64) * 64 + y2 % 64) 3 65536 (by omega) (by omega) (by omega) (by omega) hs
  rw [hy3] at r3
  refine r3.trans ?_
  by_cases k3 : y3 / 64 = 2
  rotate_left
  rw [if_neg k3]
  exact (Fn _ _ _ _).trans (fails (by unfold Lib.decodeN; rw [if_neg c1, if_neg (by omega), if_neg (by omega), if_neg (by omega)]))
  rw [if_pos k3]
  refine (Tw (q + 4 + 1) (fun x H => Bm A4 E0.tp 110 H x) [] s (q + 4) rfl (q + 1) i 3 ((((x % 8) * 64 + y1 % 64) * 64 + y2 % 64) * 64 + y3 % 64) 65536 (by omega) (by omega) (by omega)).trans ?_
  have hv : (((x % 8) * 64 + y1 % 64) * 64 + y2 % 64) * 64 + y3 % 64 = x % 8 * 262144 + y1 % 64 * 4096 + y2 % 64 * 64 + y3 % 64 := by omega
  rw [hv]
  split
  exact (Fn _ _ _ _).trans (goes _ 4 (by unfold Lib.decodeN; rw [if_neg c1, if_neg (by omega), if_neg (by omega), if_pos (by omega), if_pos (by omega)]) (by omega))
  exact (Fn _ _ _ _).trans (fails (by unfold Lib.decodeN; rw [if_neg c1, if_neg (by omega), if_neg (by omega), if_pos (by omega), if_neg (by omega)]))
 exact Ot (by simp; omega) ((Fn _ _ _ _).trans (fails (by unfold Lib.decodeN; rw [if_neg c1, if_neg (by omega), if_neg (by omega), if_neg (by omega)])))
 exact Ra (by rw [hb2]; simp; omega) ((Fn _ _ _ _).trans (fails (by unfold Lib.decodeN; rw [if_neg c1, if_neg (by omega), if_neg (by omega), if_neg (by omega)])))
theorem U2 (N ty : Nat) (a b c : Value) : Dd A4 E0.tp N ty (.tup [.sc a, .sc b, .sc c]) = (.tup [.sc a, .sc b, .sc c], []) := rfl
theorem Acv (s : ByteArray) : Vw [⟨Bp s, true, false⟩] (.sl 0 0 s.size 1) (Ai s) := fun X => by
 have e2 : Bf ([⟨Bp s, true, false⟩] ++ X) 0 0 (s.size * 1) = some (Bp s) := by
  have hl := Fb s
  show (if (0 + s.size * 1 ≤ (Bp s).length) then some (((Bp s).drop 0).take (s.size * 1)) else none) = _
  rw [if_pos (by omega), zaS, zbt, ← hl, zaJ]
 rw [Ql, e2, zad]
 have e3 : (Bp s).mapM (D5 ([⟨Bp s, true, false⟩] ++ X) 7) = some (Bp s) := by
  rw [Y2]
  exact AaG _
 rw [e3]
 rfl
theorem M3 {vs : List AV} {i : Nat} {x : AV} {K : AV → Option AV} {r : Option AV} (hx : vs[i]? = some x) (h : K x = r) : Vk (.tup vs) i (fun t => K t) = r := by
 show (vs[i]?).bind _ = r
 rw [hx]
 exact h
theorem Sr (n : Nat) (hn : 1048576 < n) (k : AV → Ae → Option AV) (s : ByteArray) (hs : s.size ≤ 60) : ∀ (b m pos c : Nat), s.size ≤ pos + b → pos ≤ s.size → c ≤ pos → b < m →
  ∃ r : Int, Oc (PR (n + 2) AV) (n + 2) k m (.sl 0 0 s.size 1) (si c) (si pos) [⟨Bp s, true, false⟩] = k (si r) [⟨Bp s, true, false⟩] ∧ (N6 b (s.data.toList.drop pos) = true → 0 ≤ r) ∧ (N6 b (s.data.toList.drop pos) = false → r = -1)
 | b, m + 1, pos, c, hb, hp, hc, hm => by
  rw [Oc]
  simp only [B3, A5, Aw, Hr, D8, Bg, Pr.gT, Pr.gF, Pr.hT, Pr.hF, Pr.kT, Pr.kF, Bv]
  have hlen : ∀ k : AV → Option AV, L9 (.sl 0 0 s.size 1) k = k (si s.size) := fun _ => rfl
  rw [hlen, Ke, Fm]
  by_cases hlt : pos < s.size
  rw [if_pos (by simpa using hlt)]
  obtain ⟨b, rfl⟩ : ∃ b', b = b' + 1 := ⟨b - 1, by omega⟩
  have hne : s.data.toList.drop pos ≠ [] := by
   intro h
   have := congrArg List.length h
   simp at this
   omega
  have hw := Lib.decodeL_width (s.data.toList.drop pos)
  have hle := Lib.decodeL_le (s.data.toList.drop pos) hne
  have hll : (s.data.toList.drop pos).length = s.size - pos := by simp
  rw [hll] at hle
  rw [N6, if_neg hne]
  generalize hd : Lib.decodeL (s.data.toList.drop pos) = d at hw hle ⊢
  have ht := Agh n hn s pos (by omega) hlt
  rw [hd] at ht
  rw [J6 (vs := [Ai s, .sc (.int .i64 pos)]) rfl (Ep (Acv s) (Ep (I4 _ _) Jj)) ht]
  by_cases hf : d.1 = 65533 ∧ d.2 = 1
  rw [Q5, if_pos hf, U2, zao, if_pos hf]
  refine ⟨-1, ?_, (fun h => by cases h), (fun _ => rfl)⟩
  refine M3 rfl (M3 rfl (M3 rfl (Vs (I1 rfl (I1 rfl (Acp rfl (Ot rfl ?_)))))))
  rfl
  rw [Q5, if_neg hf, U2, zao, if_neg hf]
  by_cases hz : d.1 = 0
  rw [if_pos hz]
  refine ⟨-1, ?_, (fun h => by cases h), (fun _ => rfl)⟩
  refine M3 rfl (M3 rfl (M3 rfl (Vs (H8 rfl (H8 rfl (Du (v := .sc (.bool ((d.1 : Int) == 0))) (fun k => rfl) (Aah rfl (Ot (by simp [hz]) ?_))))))))
  rfl
  rw [if_neg hz, zbA]
  obtain ⟨r, h1, h2, h3⟩ := Sr n hn k s hs b m (pos + d.2) (c + 1) (by omega) (by omega) (by omega) (by omega)
  refine ⟨r, ?_, h2, h3⟩
  refine M3 rfl (M3 rfl (M3 rfl (Vs (H8 rfl (H8 rfl (Du (v := .sc (.bool ((d.1 : Int) == 0))) (fun k => rfl) (Aah rfl (Ra (by simp; omega) ?_))))))))
  rw [Ia _ _ (by omega)]
  exact h1
  rw [if_neg (by simpa using hlt)]
  have hnil : s.data.toList.drop pos = [] := by
   apply zbf
   simp
   omega
  refine ⟨c, rfl, fun _ => by omega, fun h => ?_⟩
  rw [hnil] at h
  cases b <;> simp [N6] at h
theorem Ahg (n : Nat) (hn : 1048576 < n) (ty : Nat) (s : ByteArray) : ∃ r : Int, Di E0 (n + 3) ty 115 [.sc (.string s)] = some (.sc (.int .i64 r)) ∧ (Bi s = true → 0 ≤ r) ∧ (Bi s = false → r = -1) := by
 rw [Be, AeY, f115]
 simp only [Gr, A5, Aw, Aaj]
 unfold Bi
 by_cases h : s.size ≤ 60
 obtain ⟨r, h1, h2, h3⟩ := Sr n hn (fun x H => Bm A4 E0.tp ty H x) s h s.size (n + 2) 0 0 (by omega) (by omega) (by omega) (by omega)
 refine ⟨r, ?_, ?_, ?_⟩
 refine Ae2 (Du (v := .sc (.bool (decide ((s.size : Int) > 60)))) (fun k => rfl) (Ra (by simp; omega) ?_))
 simp only [Vj, asS, zad]
 rw [if_pos (by omega)]
 exact h1
 intro hv
 refine h2 ?_
 simpa [h] using hv
 intro hv
 refine h3 ?_
 simpa [h] using hv
 refine ⟨-1, ?_, (fun hv => by simp [h] at hv), (fun _ => rfl)⟩
 refine Ae2 (Du (v := .sc (.bool (decide ((s.size : Int) > 60)))) (fun k => rfl) (Ot (by simp; omega) ?_))
 rfl
theorem Gc (n : Nat) (hn : 1048576 < n) (ty : Nat) (s : ByteArray) : Di E0 (n + 4) ty 80 [.sc (.string s)] = some (.sc (.bool (Bi s))) := by
 rw [Be, Ah5, f80]
 simp only [A5]
 obtain ⟨r, h1, h2, h3⟩ := Ahg n hn 3 s
 refine J4 rfl (Ep (I4 _ _) Jj) h1 (Du (v := sb (decide (r ≥ 0))) (fun k => rfl) (Ug ?_))
 cases hv : Bi s
 rw [h3 hv]
 rfl
 simpa using h2 hv
theorem AdU {β : Type} {n : Nat} {H : Ae} {r : Option β} {ty f : Nat} {g : Nat → List AV → Option AV} {args vs : List AV} {v : Value} {K : KO β} (hg : E0.ext f = some g) (hv : args.mapM (D5 H 8) = some vs) (ht : g ty vs = some (.sc v)) (h : K (.sc v) H = r) : (PR n β).call ty (.fn f [] []) args H (fun x H => K x H) = r := by
 rw [Yu hg hv ht, H6, zao]
 exact h
theorem Hs (ty : Nat) (s : ByteArray) (hs : okS s) : V2 ty [.sc (.string s)] = some (.sc (.bool (Bi s))) := by
 have hm : maxLen = 9223372036854775807 := by decide
 show (if s.size ≤ maxLen then _ else _) = _
 rw [hm, if_pos (show s.size ≤ 9223372036854775807 from hs)]
end
section
open Go
section own
variable {ti : Nat → Option TI} {tp : Nat → Option (List Nat)}
theorem Ht {f : Nat → AV → Option (AV × List Nat)} {t : Nat} {ts : List Nat} {x : AV} {xs : List AV} {p : List AV × List Nat} (h : Em f (t :: ts) (x :: xs) = some p) :
  ∃ a b, f t x = some a ∧ Em f ts xs = some b ∧ p = (a.1 :: b.1, a.2 ++ b.2) := by
 simp only [Em, zab] at h
 obtain ⟨a, h1, b, h2, h3⟩ := h
 exact ⟨a, b, h1, h2, (Option.some.inj h3).symm⟩
theorem Ir {f : Nat → AV → Option (AV × List Nat)} {ts : List Nat} {p : List AV × List Nat} (h : Em f ts [] = some p) : ts = [] ∧ p = ([], []) := by
 cases ts with
 | nil => exact ⟨rfl, (Option.some.inj h).symm⟩
 | cons t ts => simp [Em] at h
theorem To {f : Nat → AV → Option (AV × List Nat)} : ∀ {ts : List Nat} {xs : List AV} {p : List AV × List Nat}, Em f ts xs = some p → ts.length = xs.length ∧ p.1.length = xs.length
 | ts, [], p, h => by
  obtain ⟨rfl, rfl⟩ := Ir h
  exact ⟨rfl, rfl⟩
 | [], _ :: _, p, h => by simp [Em] at h
 | t :: ts, x :: xs, p, h => by
  obtain ⟨a, b, h1, h2, rfl⟩ := Ht h
  obtain ⟨e1, e2⟩ := To h2
  simp [e1, e2]
theorem Ny {f : Nat → AV → Option (AV × List Nat)} : ∀ {ts us : List Nat} {xs ys : List AV} {p q : List AV × List Nat}, Em f ts xs = some p → Em f us ys = some q → Em f (ts ++ us) (xs ++ ys) = some (p.1 ++ q.1, p.2 ++ q.2)
 | ts, us, [], ys, p, q, h, h' => by
  obtain ⟨rfl, rfl⟩ := Ir h
  exact h'
 | [], _, _ :: _, _, _, _, h, _ => by simp [Em] at h
 | t :: ts, us, x :: xs, ys, p, q, h, h' => by
  obtain ⟨a, b, h1, h2, rfl⟩ := Ht h
  have ih := Ny h2 h'
  rw [za0, za0, Em, h1, zad, ih]
  simp
theorem G2 {f f' : Nat → AV → Option (AV × List Nat)} : ∀ {ts : List Nat} {xs : List AV} {p : List AV × List Nat}, (∀ t x a, f t x = some a → (∀ i ∈ a.2, i ∈ p.2) → f' t x = some a) → Em f ts xs = some p → Em f' ts xs = some p
 | ts, [], p, _, h => by
  obtain ⟨rfl, rfl⟩ := Ir h
  rfl
 | [], _ :: _, p, _, h => by simp [Em] at h
 | t :: ts, x :: xs, p, hf, h => by
  obtain ⟨a, b, h1, h2, rfl⟩ := Ht h
  have e1 := hf t x a h1 fun i hi => zaF _ hi
  have e2 := G2 (f' := f') (fun t x a' h hi => hf t x a' h fun i hi' => zaK _ (hi i hi')) h2
  rw [Em, e1, zad, e2]
  rfl
theorem F2 {H H' : Ae} : ∀ (d ty : Nat) (x : AV) (p : AV × List Nat), Dq ti tp H d ty x = some p → (∀ i ∈ p.2, H'[i]? = H[i]?) → Dq ti tp H' d ty x = some p
 | 0, _, _, _, h, _ => by simp [Dq] at h
 | d + 1, ty, x, p, h, hs => by
  cases x with
  | sc v => exact h
  | nl => exact h
  | sl id off n z =>
   rw [It] at h ⊢
   simp only [zab] at h
   obtain ⟨i, h1, j, h2, h3⟩ := h
   split at h3
   case isFalse => cases h3
   rename_i hz
   split at h3
   case isFalse => cases h3
   rename_i ha
   simp only [zab] at h3
   obtain ⟨cs, h4, q, h5, h6⟩ := h3
   obtain rfl := (Option.some.inj h6).symm
   have hid := hs id zaz
   have e1 : I5 H' id = true := by simpa only [I5, hid] using ha
   have e2 : Bf H' id off (n * z) = some cs := by simpa only [Bf, hid] using h4
   have e3 := G2 (f' := Dq ti tp H' d) (fun t x a h hi => F2 d t x a h fun i' hi' => hs i' (zay _ (hi i' hi'))) h5
   simp only [h1, h2, zad, hz, if_true, e1, e3]
   rw [hz] at e2
   rw [e2]
   simp only [zad, e3]
  | agg cs =>
   rw [Is] at h ⊢
   simp only [zab] at h
   obtain ⟨i, h1, q, h2, h3⟩ := h
   obtain rfl := (Option.some.inj h3).symm
   have e3 := G2 (f' := Dq ti tp H' d) (fun t x a h hi => F2 d t x a h fun i' hi' => hs i' (hi i' hi')) h2
   rw [h1, zad, e3]
   rfl
  | tup cs =>
   rw [Jp] at h ⊢
   simp only [zab] at h
   obtain ⟨i, h1, q, h2, h3⟩ := h
   obtain rfl := (Option.some.inj h3).symm
   have e3 := G2 (f' := Dq ti tp H' d) (fun t x a h hi => F2 d t x a h fun i' hi' => hs i' (hi i' hi')) h2
   rw [h1, zad, e3]
   rfl
  | _ => simp [Dq] at h
theorem Qa {f : Nat → AV → Option (AV × List Nat)} {N : Nat} : ∀ {ts : List Nat} {xs : List AV} {p : List AV × List Nat}, (∀ t x a, f t x = some a → ∀ i ∈ a.2, i < N) → Em f ts xs = some p → ∀ i ∈ p.2, i < N
 | ts, [], p, _, h => by
  obtain ⟨rfl, rfl⟩ := Ir h
  intro i hi
  cases hi
 | [], _ :: _, p, _, h => by simp [Em] at h
 | t :: ts, x :: xs, p, hf, h => by
  obtain ⟨a, b, h1, h2, rfl⟩ := Ht h
  intro i hi
  rcases zaR.1 hi with hi | hi
  ·exact hf t x a h1 i hi
  ·exact Qa hf h2 i hi
theorem N0 {H : Ae} : ∀ (d ty : Nat) (x : AV) (p : AV × List Nat), Dq ti tp H d ty x = some p → ∀ i ∈ p.2, i < H.length
 | 0, _, _, _, h => by simp [Dq] at h
 | d + 1, ty, x, p, h => by
  cases x with
  | sc v =>
   obtain rfl := (Option.some.inj h).symm
   intro i hi
   cases hi
  | nl =>
   obtain rfl := (Option.some.inj h).symm
   intro i hi
   cases hi
  | sl id off n z =>
   rw [It] at h
   simp only [zab] at h
   obtain ⟨i, h1, j, h2, h3⟩ := h
   split at h3
   case isFalse => cases h3
   split at h3
   case isFalse => cases h3
   rename_i ha
   simp only [zab] at h3
   obtain ⟨cs, h4, q, h5, h6⟩ := h3
   obtain rfl := (Option.some.inj h6).symm
   intro i' hi'
   rcases List.mem_cons.1 hi' with rfl | hi'
   ·unfold I5 at ha
    cases hg : H[i']? with
    | none => rw [hg] at ha; cases ha
    | some b => exact (zae.1 hg).1
   ·exact Qa (fun t x a h => N0 d t x a h) h5 i' hi'
  | agg cs =>
   rw [Is] at h
   simp only [zab] at h
   obtain ⟨i, h1, q, h2, h3⟩ := h
   obtain rfl := (Option.some.inj h3).symm
   exact Qa (fun t x a h => N0 d t x a h) h2
  | tup cs =>
   rw [Jp] at h
   simp only [zab] at h
   obtain ⟨i, h1, q, h2, h3⟩ := h
   obtain rfl := (Option.some.inj h3).symm
   exact Qa (fun t x a h => N0 d t x a h) h2
  | _ => simp [Dq] at h
end own
def OwnC (d : Nat) (H : Ae) (ts : List Nat) (raw cells : List AV) (ids : List Nat) : Prop := Em (Dq A4 E0.tp H d) ts raw = some (cells, ids)
theorem OwnC.frame {d : Nat} {H H' : Ae} {ts : List Nat} {raw cells : List AV} {ids : List Nat} (h : OwnC d H ts raw cells ids) (hs : ∀ i ∈ ids, H'[i]? = H[i]?) : OwnC d H' ts raw cells ids :=
 G2 (fun t x a h hi => F2 d t x a h fun i hi' => hs i (hi i hi')) h
theorem OwnC.lt {d : Nat} {H : Ae} {ts : List Nat} {raw cells : List AV} {ids : List Nat} (h : OwnC d H ts raw cells ids) : ∀ i ∈ ids, i < H.length := Qa (fun t x a h => N0 d t x a h) h
theorem OwnC.grow {d : Nat} {H : Ae} {ts : List Nat} {raw cells : List AV} {ids : List Nat} (h : OwnC d H ts raw cells ids) (X : List Iy) : OwnC d (H ++ X) ts raw cells ids :=
 h.frame fun i hi => zal (h.lt i hi)
theorem OwnC.append {d : Nat} {H : Ae} {ts us : List Nat} {raw raw' cells cells' : List AV} {ids ids' : List Nat} (h : OwnC d H ts raw cells ids) (h' : OwnC d H us raw' cells' ids') : OwnC d H (ts ++ us) (raw ++ raw') (cells ++ cells') (ids ++ ids') := Ny h h'
theorem OwnC.len {d : Nat} {H : Ae} {ts : List Nat} {raw cells : List AV} {ids : List Nat} (h : OwnC d H ts raw cells ids) : ts.length = raw.length ∧ cells.length = raw.length := To h
def OwnS (d : Nat) (H : Ae) (w : Nat) (cty : List Nat) (x : AV) (k : Nat) (cells : List AV) : Prop :=
 (x = .nl ∧ k = 0 ∧ cells = []) ∨ ∃ id raw ids, x = .sl id 0 k w ∧ H[id]? = some ⟨raw, true, true⟩ ∧ raw.length = k * w ∧ OwnC d H (zaj k cty).flatten raw cells ids ∧ (id :: ids).Nodup
theorem OwnS.nil (d : Nat) (H : Ae) (w : Nat) (cty : List Nat) : OwnS d H w cty .nl 0 [] := .inl ⟨rfl, rfl, rfl⟩
theorem OwnS.grow {d : Nat} {H : Ae} {w : Nat} {cty : List Nat} {x : AV} {k : Nat} {cells : List AV} (h : OwnS d H w cty x k cells) (X : List Iy) : OwnS d (H ++ X) w cty x k cells := by
 rcases h with h | ⟨id, raw, ids, h1, h2, h3, h4, h5⟩
 ·exact .inl h
 ·exact .inr ⟨id, raw, ids, h1, by rw [zal (zae.1 h2).1]; exact h2, h3, h4.grow X, h5⟩
variable {β : Type} {n : Nat} {r : Option β}
theorem AhQ (A : Ae) (b : Iy) (R : Ae) : (A ++ b :: R)[A.length]? = some b := by
 rw [zai (zam _), zaP]
 rfl
theorem AeA {d : Nat} {H X : Ae} {w bytes : Nat} {cty : List Nat} {x : AV} {k : Nat} {cells er ec : List AV} {eids : List Nat} {K : KO β} (hx : OwnS d H w cty x k cells) (hw : er.length = w) (hl : er.all Bn = true)
  (he : OwnC d (H ++ X) cty er ec eids) (hn : eids.Nodup) (hge : ∀ i ∈ eids, H.length ≤ i) (hb : (k + 1) * bytes ≤ 140737488355328)
  (h : ∀ x' H', OwnS d H' w cty x' (k + 1) (cells ++ ec) → K x' H' = r) :
  Hz 1 w er true (H ++ X) (fun y G => K6 w bytes x y G K) = r := by
 have hy : ∀ G : Ae, Ej (G ++ [⟨er, true, true⟩]) w (.sl G.length 0 1 w) = some er := by
  intro G
  simp only [Ej, if_true, Nat.one_mul, Bf, AhQ G _ [], za3, hw, zam, zaS]
  rw [← hw, zaJ]
 have hell : (H ++ X).length ∉ eids := fun hm => Nat.lt_irrefl _ (he.lt _ hm)
 rcases hx with ⟨rfl, rfl, rfl⟩ | ⟨id, raw, ids, rfl, h2, h3, h4, h5⟩
 ·simp only [Hz, K6, I0, zad, hy]
  rw [show Ej (H ++ X ++ [⟨er, true, true⟩]) w .nl = some [] from rfl]
  simp only [zad, Qu]
  rw [if_pos hb, if_pos hl]
  refine h _ _ (.inr ⟨_, er, eids, rfl, ?_, by simp [hw], ?_, ?_⟩)
  ·rw [zai (zam _), zaP]
   rfl
  ·simp only [za3, List.replicate_one, za6, zb2, zao, zak]
   exact (he.grow _).grow _
  ·rw [zbh]
   refine ⟨fun hm => ?_, hn⟩
   have := he.lt _ hm
   simp at this
   omega
 ·have hid : id < H.length := (zae.1 h2).1
  have hg : (H ++ X ++ [(⟨er, true, true⟩ : Iy)])[id]? = some ⟨raw, true, true⟩ := by
   rw [zah, zal hid]
   exact h2
  have hcx : Ej (H ++ X ++ [⟨er, true, true⟩]) w (.sl id 0 k w) = some raw := by
   simp only [Ej, if_true, Bf, hg, za3, h3, zam, zaS]
   rw [← h3, zaJ]
  simp only [Hz, K6, I0, zad, hy, hcx, Qu, hg, if_true]
  rw [if_pos hb, if_pos hl]
  have hn5 := zbh.1 h5
  have hne : ∀ i ∈ ids, i ≠ id := fun i hi e => hn5.1 (e ▸ hi)
  have hne2 : ∀ i ∈ eids, i ≠ id := fun i hi e => by
   have := hge i hi
   omega
  refine h _ _ (.inr ⟨_, raw ++ er, ids ++ eids, rfl, ?_, by simp [h3, hw, Nat.succ_mul], ?_, ?_⟩)
  ·rw [zai (zam _), zaP]
   rfl
  ·have e : (zaj (k + 1) cty).flatten = (zaj k cty).flatten ++ cty := by
    rw [List.replicate_succ', zb1]
    simp
   rw [e]
   refine OwnC.append ?_ ?_
   ·refine OwnC.grow (OwnC.frame (H := H ++ X ++ [⟨er, true, true⟩]) ((h4.grow X).grow _) fun i hi => ?_) _
    rw [zb9 (fun e => hne i hi e.symm)]
   ·refine OwnC.grow (OwnC.frame (H := H ++ X ++ [⟨er, true, true⟩]) (he.grow _) fun i hi => ?_) _
    rw [zb9 (fun e => hne2 i hi e.symm)]
  ·rw [zbh]
   refine ⟨fun hm => ?_, ?_⟩
   ·rcases zaR.1 hm with hm | hm
    ·have := h4.lt _ hm
     simp at this
     omega
    ·have := he.lt _ hm
     simp at this
     omega
   ·rw [zba]
    refine ⟨hn5.2, hn, fun a ha b hb e => ?_⟩
    have h1 := h4.lt a ha
    have h2 := hge b hb
    omega
theorem AfW {d : Nat} {H : Ae} {w tyS k : Nat} {cty : List Nat} {x : AV} {cells : List AV} (hty : ∃ i j, A4 tyS = some i ∧ A4 i.elem = some j ∧ j.size = w ∧ j.cty = cty) (h : OwnS d H w cty x k cells) : ∃ ids, Dq A4 E0.tp H (d + 1) tyS x = some (.ro k cells, ids) ∧ ids.Nodup := by
 rcases h with ⟨rfl, rfl, rfl⟩ | ⟨id, raw, ids, rfl, h2, h3, h4, h5⟩
 ·exact ⟨[], rfl, List.nodup_nil⟩
 ·obtain ⟨i, j, e1, e2, rfl, rfl⟩ := hty
  refine ⟨id :: ids, ?_, h5⟩
  rw [It]
  have ha : I5 H id = true := by simp only [I5, h2]
  have hr : Bf H id 0 (k * j.size) = some raw := by
   simp only [Bf, h2, if_true, za3, h3, zam, zaS]
   rw [← h3, zaJ]
  have h4' : Em (Dq A4 E0.tp H d) (zaj k j.cty).flatten raw = some (cells, ids) := h4
  simp only [e1, e2, zad, if_true, ha, hr, h4']
end
section
open Go
def Dr (s : ByteArray) : Bool := Bi s && !(s.toList == (⟨#[]⟩ : ByteArray).toList) && !(H7 s 43) && !(H7 s 35) && decide (((Bq s).length : Int) ≤ 6)
section
variable {β : Type} {n : Nat} {H : Ae} {r : Option β}
theorem AaF {ty f len : Nat} {args vs cells : List AV} {K : KO β} (hh : Gu f = false) (hv : args.mapM (D5 H 8) = some vs) (ht : Di E0 n ty f vs = some (.ro len cells)) (h : ∀ N X sz, K (.sl N 0 len sz) (H ++ X) = r) : (PR n β).call ty (.fn f [] []) args H (fun x H => K x H) = r := by
 rw [J6 hh hv ht]
 exact h _ _ _
theorem Ae0 {b b' : Bool} (h : b = b') : some (AV.sc (.bool b)) = some (AV.sc (.bool b')) := by rw [h]
theorem Ae1 {id off m w : Nat} {K : AV → Option β} (h : K (.sc (.int .i64 m)) = r) : L9 (.sl id off m w) (fun t => K t) = r := h
end
section has
variable (n : Nat) (k : AV → Ae → Option AV) (H : Ae)
theorem Xs (s : ByteArray) (b : UInt8) (hs : s.size ≤ 1048576) : ∀ (r pre : List UInt8) (m : Nat), s.data.toList = pre ++ r → r.length < m →
  Mo (PR n AV) n k m (ss s) (su b.toNat) (si pre.length) H = k (sb (r.any fun c => c == b)) H
 | [], pre, m + 1, hl, hm => by
  have h1 : s.size = pre.length := by
   have := congrArg List.length hl
   simpa using this
  rw [Mo]
  simp only [Gr, A5, Aw]
  rw [Tc, Ke, h1, Fm, if_neg (by simp)]
  rfl
 | c :: r, pre, m + 1, hl, hm => by
  have h1 : s.size = pre.length + r.length + 1 := by
   have := congrArg List.length hl
   simpa [zaL] using this
  rw [Mo]
  simp only [Gr, A5, Aw, Mi]
  rw [Tc, Ke, Fm, if_pos (by simp; omega), AgM s pre.length c _ (by rw [hl]; simp)]
  have he : ∀ K : AV → Option AV, En .eql (su (c.toNat : Int)) (su (b.toNat : Int)) K = K (sb (c == b)) := by
   intro K
   show K (.sc (.bool ((c.toNat : Int) == (b.toNat : Int)))) = _
   congr 3
   rw [zb6, beq_iff_eq, beq_iff_eq, Int.ofNat_inj, UInt8.toNat_inj]
  rw [he, Fm, zb8]
  cases hcb : (c == b)
  rw [if_neg (by simp), Ia _ _ (by omega)]
  have ih := Xs s b hs r (pre ++ [c]) m (by rw [hl]; simp) (by simpa using hm)
  rw [zag, zan] at ih
  rw [ih]
  rfl
  rw [if_pos rfl]
  rfl
end has
theorem Aja (n : Nat) (hn : 1048576 < n) (ty : Nat) (s : ByteArray) (b : UInt8) (hs : s.size ≤ 1048576) : Di E0 (n + 1) ty 127 [.sc (.string s), .sc (.int .u8 b.toNat)] = some (.sc (.bool (H7 s b))) := by
 rw [Be, Afb, f127]
 have key := Xs n (fun x H => Bm A4 E0.tp ty H x) [] s b hs s.data.toList [] n rfl (by simp; omega)
 simp only [zat, zaX] at key
 rw [key]
 rfl
theorem AgL (n : Nat) (hn : 1048576 < n) (ty : Nat) (s : ByteArray) (hs : s.size ≤ 1048576) : Di E0 (n + 1) ty 127 [.sc (.string s), .sc (.int .u8 43)] = some (.sc (.bool (H7 s 43))) := Aja n hn ty s 43 hs
theorem AdH (n : Nat) (hn : 1048576 < n) (ty : Nat) (s : ByteArray) (hs : s.size ≤ 1048576) : Di E0 (n + 1) ty 127 [.sc (.string s), .sc (.int .u8 35)] = some (.sc (.bool (H7 s 35))) := Aja n hn ty s 35 hs
theorem Ago : ∃ i j, A4 56 = some i ∧ A4 i.elem = some j ∧ j.size = 1 ∧ j.cty = [i.elem] := ⟨_, _, rfl, rfl, rfl, rfl⟩
def Agn (l : List UInt8) : AV := .sc (.string (ofL l))
theorem X2 (s : ByteArray) (P cur r : List UInt8) (h : s.data.toList = P ++ (cur ++ r)) : s.extract P.length (P.length + cur.length) = ofL cur := by
 have : (s.extract P.length (P.length + cur.length)).data.toList = cur := by
  rw [ByteArray.data_extract, Array.toList_extract, List.extract, h]
  rw [zaW (zam _), zbB, zak, Nat.add_sub_cancel_left, List.take_append_of_le_length (zam _), zaJ]
 rw [← X1 (s.extract _ _), this]
theorem U6 {H : Ae} {x : AV} {cnt : Nat} {cells : List AV} {K : AV → Ae → Option AV} {r : Option AV} (s : ByteArray) (P cur rest : List UInt8) (hl : s.data.toList = P ++ (cur ++ rest)) (hs : s.size ≤ 1048576) (hx : OwnS 7 H 1 [9] x cnt cells) (hc : cnt ≤ 1048577)
  (h : ∀ x' H', OwnS 7 H' 1 [9] x' (cnt + 1) (cells ++ [Agn cur]) → K x' H' = r) :
  (Qd (ss s) (some (si P.length)) (some (si ((P.length + cur.length : Nat) : Int))) fun t27 => (Ky [sE] [(0, 1, t27)]).bind fun ct28 => Hz 1 1 ct28 true H fun t28 H => K6 1 16 x t28 H K) = r := by
 have hsz : P.length + cur.length ≤ s.size := by
  have := congrArg List.length hl
  simp at this
  omega
 simp only [Qd, asS, M6, Yx, zad]
 rw [if_pos (by omega)]
 simp only [zbz]
 rw [X2 s P cur rest hl]
 have hf : Ky [sE] [(0, 1, ss (ofL cur))] = some [ss (ofL cur)] := rfl
 rw [hf, zad]
 have key := AeA (H := H) (X := []) (bytes := 16) (er := [ss (ofL cur)]) (ec := [Agn cur]) (eids := []) (K := K) (r := r) hx rfl rfl rfl List.nodup_nil (fun i hi => by cases hi) (by omega) h
 rw [zao] at key
 exact key
theorem Td (n : Nat) (s : ByteArray) (hs : s.size ≤ 1048576) : ∀ (r P cur : List UInt8) (m : Nat) (x : AV) (H : Ae) (cnt : Nat) (cells : List AV), s.data.toList = P ++ (cur ++ r) → r.length + 1 < m → OwnS 7 H 1 [9] x cnt cells → cnt ≤ P.length →
  Kc (PR n AV) n (fun x H => Bm A4 E0.tp 56 H x) m (ss s) x (si P.length) (si ((P.length + cur.length : Nat) : Int)) H = some (.ro (cnt + (Z1 cur r).length) (cells ++ (Z1 cur r).map Agn))
 | [], P, cur, m + 2, x, H, cnt, cells, hl, hm, hx, hc => by
  have h1 : s.size = P.length + cur.length := by
   have := congrArg List.length hl
   simpa using this
  rw [Kc]
  simp only [Gr, A5, Aw, Bg, Pr.gT, Pr.gF, Pr.hT, Pr.hF, Pr.kT, Pr.kF, Bv, Ii, C2, Cz, D3, Mi]
  rw [Tc, X0, Fm, if_pos (by simp; omega), Tc, Agv]
  have he : (((P.length + cur.length : Nat) : Int) == (s.size : Int)) = true := by simp; omega
  refine I1 he (I1 he (I1 he (I1 he (Acp he (Ot rfl (U6 s P cur [] hl hs hx (by omega) fun x' H' hx' => ?_))))))
  rw [Ia _ _ (by omega), Ia _ _ (by omega)]
  rw [Kc]
  simp only [Gr, A5, Aw]
  rw [Tc, X0, Fm, if_neg (by simp; omega)]
  obtain ⟨i, j, e1, e2, e3, e4⟩ := Ago
  obtain ⟨ids, ho, hno⟩ := AfW (d := 7) (tyS := 56) (w := 1) (cty := [9]) ⟨_, _, rfl, rfl, rfl, rfl⟩ hx'
  rw [Bm, ho, zad, if_pos hno]
  rfl
 | c :: r, P, cur, m + 1, x, H, cnt, cells, hl, hm, hx, hc => by
  have h1 : s.size = P.length + cur.length + r.length + 1 := by
   have := congrArg List.length hl
   simp at this
   omega
  have hidx : s.data.toList[P.length + cur.length]? = some c := by
   rw [hl, ← zah, ← zag, zai (zam _), zaP]
   rfl
  rw [Kc]
  simp only [Gr, A5, Aw, Bg, Pr.gT, Pr.gF, Pr.hT, Pr.hF, Pr.kT, Pr.kF, Bv, Ii, C2, Cz, D3, Mi]
  rw [Tc, X0, Fm, if_pos (by simp; omega), Tc, Agv]
  have he : (((P.length + cur.length : Nat) : Int) == (s.size : Int)) = false := by simp; omega
  refine H8 he (H8 he (H8 he ?_))
  rw [AgM s (P.length + cur.length) c _ hidx]
  refine H8 he (Du (v := sb (c == 47)) (fun K => ?_) ?_)
  show K (.sc (.bool ((c.toNat : Int) == (47 : Int)))) = _
  congr 3
  rw [zb6, beq_iff_eq, beq_iff_eq, show (47 : Int) = (((47 : UInt8).toNat : Nat) : Int) from rfl, Int.ofNat_inj, UInt8.toNat_inj]
  refine Aah he ?_
  rw [Z1]
  by_cases h47 : c = 47
  refine Ot (by simp [h47]) (U6 s P cur (c :: r) hl hs hx (by omega) fun x' H' hx' => ?_)
  rw [Ia _ _ (by omega), Ia _ _ (by omega), if_pos h47]
  have ih := Td n s hs r (P ++ cur ++ [c]) [] m x' H' (cnt + 1) (cells ++ [Agn cur]) (by rw [hl]; simp) (by simpa using hm) hx' (by simp; omega)
  simp only [zag, zat, zan, zaZ] at ih
  rw [ih]
  simp [zaL, zbE]
  refine Ra (by simpa using h47) ?_
  rw [Ia _ _ (by omega), if_neg h47]
  have ih := Td n s hs r P (cur ++ [c]) m x H cnt cells (by rw [hl]; simp) (by simpa using hm) hx hc
  rw [zag, zan, ← zaL] at ih
  exact ih
theorem Rw (n : Nat) (hn : 1048577 < n) (s : ByteArray) (hs : s.size ≤ 1048576) : Di E0 (n + 1) 56 128 [.sc (.string s)] = some (.ro (Bq s).length ((Bq s).map fun x => .sc (.string x))) := by
 rw [Be, Afc, f128]
 have key := Td n s hs s.data.toList [] [] n .nl [] 0 [] rfl (by simp; omega) (OwnS.nil _ _ _ _) (by simp)
 simp only [zat, zaX, za3, zak] at key
 rw [key, Bq, zbi, zbG]
 rfl
theorem Rl (n : Nat) (s : ByteArray) (hs : s.size ≤ 1048576) : Di E0 (n + 1) 56 137 [.sc (.string s)] = some (.ro (Bq s).length ((Bq s).map fun x => .sc (.string x))) := by
 rw [Be, Afj, f137]
 have hg : Qr 56 [ss s, .sc (.string ⟨#[47]⟩)] = some (.ro (Bq s).length ((Bq s).map fun x => ss x)) := by
  unfold Qr
  exact if_pos ⟨rfl, rfl, by omega⟩
 rw [Yu (g := Qr) rfl (Ep (I4 _ _) (Ep (I4 _ _) Jj)) hg]
 refine AaJ [] _ _ ?_
 refine ⟨_, _, rfl, rfl, by simp, ?_⟩
 have := Qy (f := Iq A4 E0.tp 7) (cty := [9]) (enc := fun x : ByteArray => [ss x]) (Bq s) (fun x _ => ⟨trivial, trivial⟩)
 rw [Pu] at this
 exact this
theorem Us (ty : Nat) (s : ByteArray) (hs : s.size ≤ 1048576) : Sx ty [.sc (.string s), .sc (.string ⟨#[43, 35]⟩)] = some (.sc (.bool (vPH s))) := by
 unfold Sx
 exact if_pos ⟨rfl, by omega⟩
end
section
open Go
section
variable {ti : Nat → Option TI} {tp : Nat → Option (List Nat)} {H : Ae}
theorem Nz {d d' : Nat} (hd : ∀ ty x t I, Dq ti tp H d ty x = some (t, I) → Iq ti tp d' ty t → Dq ti tp H d' ty x = some (t, I)) : ∀ (ts : List Nat) (xs cells : List AV) (I : List Nat), Em (Dq ti tp H d) ts xs = some (cells, I) → Hg (Iq ti tp d') ts cells → Em (Dq ti tp H d') ts xs = some (cells, I)
 | ts, [], cells, I, h, _ => by
  obtain ⟨rfl, e⟩ := Ir h
  cases e
  rfl
 | [], _ :: _, _, _, h, _ => by simp [Em] at h
 | t :: ts, x :: xs, cells, I, h, ho => by
  obtain ⟨a, b, h1, h2, e⟩ := Ht h
  cases e
  have e1 := hd t x a.1 a.2 h1 ho.1
  have e2 := Nz hd ts xs b.1 b.2 h2 ho.2
  rw [Em, e1, zad, e2]
  rfl
theorem Jl : ∀ (d d' ty : Nat) (x t : AV) (I : List Nat), Dq ti tp H d ty x = some (t, I) → Iq ti tp d' ty t → Dq ti tp H d' ty x = some (t, I)
 | 0, _, _, _, _, _, h, _ => by simp [Dq] at h
 | d + 1, 0, _, _, _, _, _, ho => by cases ho
 | d + 1, d' + 1, ty, x, t, I, h, ho => by
  cases x with
  | sc v =>
   obtain ⟨rfl, rfl⟩ : AV.sc v = t ∧ [] = I := by simpa [Dq] using h
   rfl
  | nl =>
   obtain ⟨rfl, rfl⟩ : AV.ro 0 [] = t ∧ [] = I := by simpa [Dq] using h
   rfl
  | sl id off n z =>
   rw [It] at h ⊢
   simp only [zab] at h
   obtain ⟨i, h1, j, h2, h3⟩ := h
   split at h3
   case isFalse => cases h3
   rename_i hz
   split at h3
   case isFalse => cases h3
   rename_i ha
   simp only [zab] at h3
   obtain ⟨cs, h4, q, h5, h6⟩ := h3
   obtain ⟨rfl, rfl⟩ : AV.ro n q.1 = t ∧ id :: q.2 = I := by simpa using h6
   obtain ⟨i', j', g1, g2, g3, g4⟩ := ho
   rw [h1] at g1
   cases g1
   rw [h2] at g2
   cases g2
   have e3 := Nz (fun ty x t I h ho => Jl d d' ty x t I h ho) _ _ _ _ h5 g4
   rw [hz] at h4
   simp only [h1, h2, zad, hz, if_true, ha, h4, e3]
  | agg cs =>
   rw [Is] at h ⊢
   simp only [zab] at h
   obtain ⟨i, h1, q, h2, h3⟩ := h
   obtain ⟨rfl, rfl⟩ : AV.agg q.1 = t ∧ q.2 = I := by simpa using h3
   obtain ⟨i', g1, g2⟩ := ho
   rw [h1] at g1
   cases g1
   have e3 := Nz (fun ty x t I h ho => Jl d d' ty x t I h ho) _ _ _ _ h2 g2
   rw [h1, zad, e3]
   rfl
  | tup cs =>
   rw [Jp] at h ⊢
   simp only [zab] at h
   obtain ⟨i, h1, q, h2, h3⟩ := h
   obtain ⟨rfl, rfl⟩ : AV.tup q.1 = t ∧ q.2 = I := by simpa using h3
   obtain ⟨i', g1, g2⟩ := ho
   rw [h1] at g1
   cases g1
   have e3 := Nz (fun ty x t I h ho => Jl d d' ty x t I h ho) _ _ _ _ h2 g2
   rw [h1, zad, e3]
   rfl
  | _ => simp [Dq] at h
theorem Vg {d : Nat} (hd : ∀ ty x t I, Dq ti tp H d ty x = some (t, I) → D5 H d x = some t) : ∀ (ts : List Nat) (xs cells : List AV) (I : List Nat), Em (Dq ti tp H d) ts xs = some (cells, I) → xs.mapM (D5 H d) = some cells
 | ts, [], cells, I, h => by
  obtain ⟨rfl, e⟩ := Ir h
  cases e
  rfl
 | [], _ :: _, _, _, h => by simp [Em] at h
 | t :: ts, x :: xs, cells, I, h => by
  obtain ⟨a, b, h1, h2, e⟩ := Ht h
  cases e
  simp only [zaG, hd t x a.1 a.2 h1, Vg hd ts xs b.1 b.2 h2, zbc, zaM, zad]
theorem N1 : ∀ (d ty : Nat) (x t : AV) (I : List Nat), Dq ti tp H d ty x = some (t, I) → D5 H d x = some t
 | 0, _, _, _, _, h => by simp [Dq] at h
 | d + 1, ty, x, t, I, h => by
  have ih := Vg (ti := ti) (tp := tp) (H := H) (d := d) (fun ty x t I h => N1 d ty x t I h)
  cases x with
  | sc v =>
   obtain ⟨rfl, rfl⟩ : AV.sc v = t ∧ [] = I := by simpa [Dq] using h
   rfl
  | nl =>
   obtain ⟨rfl, rfl⟩ : AV.ro 0 [] = t ∧ [] = I := by simpa [Dq] using h
   rfl
  | sl id off n z =>
   rw [It] at h
   simp only [zab] at h
   obtain ⟨i, h1, j, h2, h3⟩ := h
   split at h3
   case isFalse => cases h3
   split at h3
   case isFalse => cases h3
   simp only [zab] at h3
   obtain ⟨cs, h4, q, h5, h6⟩ := h3
   obtain ⟨rfl, rfl⟩ : AV.ro n q.1 = t ∧ id :: q.2 = I := by simpa using h6
   rw [Ql, h4, zad, ih _ _ _ _ h5]
   rfl
  | agg cs =>
   rw [Is] at h
   simp only [zab] at h
   obtain ⟨i, h1, q, h2, h3⟩ := h
   obtain ⟨rfl, rfl⟩ : AV.agg q.1 = t ∧ q.2 = I := by simpa using h3
   rw [Oo, ih _ _ _ _ h2]
   rfl
  | tup cs =>
   rw [Jp] at h
   simp only [zab] at h
   obtain ⟨i, h1, q, h2, h3⟩ := h
   obtain ⟨rfl, rfl⟩ : AV.tup q.1 = t ∧ q.2 = I := by simpa using h3
   show (cs.mapM (D5 H d)).bind _ = _
   rw [ih _ _ _ _ h2]
   rfl
  | _ => simp [Dq] at h
theorem L8 {f g : Nat → AV → Prop} (hfg : ∀ t x, f t x → g t x) : ∀ {ts : List Nat} {cs : List AV}, Hg f ts cs → Hg g ts cs
 | [], [], h => h
 | _ :: ts, _ :: cs, h => ⟨hfg _ _ h.1, L8 hfg h.2⟩
theorem P8 : ∀ (d ty : Nat) (x : AV), Iq ti tp d ty x → Iq ti tp (d + 1) ty x
 | 0, _, _, h => by cases h
 | d + 1, ty, x, h => by
  cases x with
  | sc v => trivial
  | ro n cells =>
   obtain ⟨i, j, h1, h2, h3, h4⟩ := h
   exact ⟨i, j, h1, h2, h3, L8 (P8 d) h4⟩
  | agg cs =>
   obtain ⟨i, h1, h2⟩ := h
   exact ⟨i, h1, L8 (P8 d) h2⟩
  | tup cs =>
   obtain ⟨i, h1, h2⟩ := h
   exact ⟨i, h1, L8 (P8 d) h2⟩
  | _ => cases h
theorem Cg {d d' ty : Nat} {x : AV} (h : Iq ti tp d ty x) (hd : d ≤ d') : Iq ti tp d' ty x := by
 induction hd with
 | refl => exact h
 | step _ ih => exact P8 _ _ _ ih
theorem AfS {d d' : Nat} {ts : List Nat} {cs : List AV} (h : Hg (Iq ti tp d) ts cs) (hd : d ≤ d') : Hg (Iq ti tp d') ts cs := L8 (fun _ _ h => Cg h hd) h
end
inductive Ck where
 | blk (id : Nat) (cs : List AV) (a : Bool)
 | own (x : AV) (ty : Nat) (t : AV)
 | shr (x : AV) (ty : Nat) (t : AV) (y : AV) (ty' : Nat) (t' : AV)
 | shs (x : AV) (ty : Nat) (t : AV) (ys : List (AV × Nat × AV))
def CkOk (H : Ae) (c : Ck) (I : List Nat) : Prop :=
 match c with
 | .blk id cs a => I = [id] ∧ H[id]? = some ⟨cs, true, a⟩
 | .own x ty t => Bn x = true ∧ Iq A4 E0.tp 6 ty t ∧ Dq A4 E0.tp H 6 ty x = some (t, I)
 | .shr x ty t y ty' t' => (Bn x = true ∧ Iq A4 E0.tp 6 ty t ∧ Dq A4 E0.tp H 6 ty x = some (t, I)) ∧ Iq A4 E0.tp 6 ty' t' ∧ ∃ J, Dq A4 E0.tp H 6 ty' y = some (t', J) ∧ ∀ i ∈ J, i ∈ I
 | .shs x ty t ys => (Bn x = true ∧ Iq A4 E0.tp 6 ty t ∧ Dq A4 E0.tp H 6 ty x = some (t, I)) ∧ ∀ q ∈ ys, Iq A4 E0.tp 6 q.2.1 q.2.2 ∧ ∃ J, Dq A4 E0.tp H 6 q.2.1 q.1 = some (q.2.2, J) ∧ ∀ i ∈ J, i ∈ I
def SepI (H : Ae) : List Ck → List Nat → Prop
 | [], I => I = []
 | c :: L, I => ∃ J R, I = J ++ R ∧ CkOk H c J ∧ SepI H L R
def Sep (H : Ae) (L : List Ck) : Prop := ∃ I, SepI H L I ∧ I.Nodup
inductive Pk : List Ck → Ck → List Ck → Prop
 | here {c : Ck} {L : List Ck} : Pk (c :: L) c L
 | there {a c : Ck} {L L' : List Ck} : Pk L c L' → Pk (a :: L) c (a :: L')
section
variable {H H' : Ae} {L L' L1 L2 : List Ck} {c : Ck} {I J R : List Nat}
theorem C1 : Sep H [] := ⟨[], rfl, List.nodup_nil⟩
theorem CkOk.frame (h : CkOk H c I) (hs : ∀ i ∈ I, H'[i]? = H[i]?) : CkOk H' c I := by
 cases c with
 | blk id cs a =>
  obtain ⟨rfl, h2⟩ := h
  exact ⟨rfl, by rw [hs id (by simp)]; exact h2⟩
 | own x ty t => exact ⟨h.1, h.2.1, F2 6 ty x _ h.2.2 hs⟩
 | shr x ty t y ty' t' =>
  obtain ⟨⟨h1, h2, h3⟩, h4, J, h5, h6⟩ := h
  exact ⟨⟨h1, h2, F2 6 ty x _ h3 hs⟩, h4, J, F2 6 ty' y _ h5 fun i hi => hs i (h6 i hi), h6⟩
 | shs x ty t ys =>
  obtain ⟨⟨h1, h2, h3⟩, h4⟩ := h
  exact ⟨⟨h1, h2, F2 6 ty x _ h3 hs⟩, fun q hq => by
   obtain ⟨g1, J, g2, g3⟩ := h4 q hq
   exact ⟨g1, J, F2 6 _ _ _ g2 fun i hi => hs i (g3 i hi), g3⟩⟩
theorem CkOk.lt (h : CkOk H c I) : ∀ i ∈ I, i < H.length := by
 cases c with
 | blk id cs a =>
  obtain ⟨rfl, h2⟩ := h
  intro i hi
  rw [zbk] at hi
  subst hi
  exact (zae.1 h2).1
 | own x ty t => exact N0 6 ty x _ h.2.2
 | shr x ty t y ty' t' => exact N0 6 ty x _ h.1.2.2
 | shs x ty t ys => exact N0 6 ty x _ h.1.2.2
theorem SepI.frame : ∀ {L : List Ck} {I : List Nat}, SepI H L I → (∀ i ∈ I, H'[i]? = H[i]?) → SepI H' L I
 | [], I, h, _ => h
 | c :: L, I, h, hs => by
  obtain ⟨J, R, rfl, h1, h2⟩ := h
  exact ⟨J, R, rfl, h1.frame fun i hi => hs i (zaF _ hi), h2.frame fun i hi => hs i (zaK _ hi)⟩
theorem SepI.lt : ∀ {L : List Ck} {I : List Nat}, SepI H L I → ∀ i ∈ I, i < H.length
 | [], I, h => by
  cases (show I = [] from h)
  intro i hi
  cases hi
 | c :: L, I, h => by
  obtain ⟨J, R, rfl, h1, h2⟩ := h
  intro i hi
  rcases zaR.1 hi with hi | hi
  ·exact h1.lt i hi
  ·exact h2.lt i hi
theorem SepI.grow (h : SepI H L I) (X : List Iy) : SepI (H ++ X) L I := h.frame fun i hi => zal (h.lt i hi)
theorem Sep.grow (h : Sep H L) (X : List Iy) : Sep (H ++ X) L := by
 obtain ⟨I, h1, h2⟩ := h
 exact ⟨I, h1.grow X, h2⟩
theorem Sep.new {X : List Iy} (hs : Sep H L) (hc : CkOk (H ++ X) c J) (hJ : J.Nodup) (hge : ∀ i ∈ J, H.length ≤ i) : Sep (H ++ X) (c :: L) := by
 obtain ⟨I, h1, h2⟩ := hs
 refine ⟨J ++ I, ⟨J, I, rfl, hc, h1.grow X⟩, zba.2 ⟨hJ, h2, fun a ha b hb e => ?_⟩⟩
 have := h1.lt b hb
 have := hge a ha
 omega
theorem Pk.sepI : ∀ {L L' : List Ck} {c : Ck} {I : List Nat}, Pk L c L' → SepI H L I → ∃ J R, CkOk H c J ∧ SepI H L' R ∧ I.Perm (J ++ R)
 | _, _, _, _, .here, h => by
  obtain ⟨J, R, rfl, h1, h2⟩ := h
  exact ⟨J, R, h1, h2, zb7.refl _⟩
 | _, _, _, _, .there p, h => by
  obtain ⟨J, R, rfl, h1, h2⟩ := h
  obtain ⟨J', R', g1, g2, g3⟩ := p.sepI h2
  refine ⟨J', J ++ R', g1, ⟨J, R', rfl, h1, g2⟩, ?_⟩
  refine (zb7.append_left J g3).trans ?_
  rw [← zah, ← zah]
  exact zb7.append_right R' List.perm_append_comm
theorem Sep.pick (h : Sep H L) (p : Pk L c L') : Sep H (c :: L') := by
 obtain ⟨I, h1, h2⟩ := h
 obtain ⟨J, R, g1, g2, g3⟩ := p.sepI h1
 exact ⟨J ++ R, ⟨J, R, rfl, g1, g2⟩, g3.nodup_iff.1 h2⟩
theorem Sep.tail (h : Sep H (c :: L)) : Sep H L := by
 obtain ⟨I, ⟨J, R, rfl, h1, h2⟩, h3⟩ := h
 exact ⟨R, h2, (zba.1 h3).2.1⟩
theorem Sep.blk {id : Nat} {cs : List AV} {a : Bool} (h : Sep H L) (p : Pk L (.blk id cs a) L') : H[id]? = some ⟨cs, true, a⟩ := by
 obtain ⟨I, ⟨J, R, rfl, h1, h2⟩, h3⟩ := h.pick p
 exact h1.2
theorem Sep.put {id : Nat} {cs : List AV} {a : Bool} (h : Sep H L) (p : Pk L (.blk id cs a) L') (cs' : List AV) (a' : Bool) : Sep (H.set id ⟨cs', true, a'⟩) (.blk id cs' a' :: L') := by
 obtain ⟨I, ⟨J, R, rfl, ⟨rfl, h1⟩, h2⟩, h3⟩ := h.pick p
 have hn := (zbh.1 h3).1
 have hl := (zae.1 h1).1
 refine ⟨[id] ++ R, ⟨[id], R, rfl, ⟨rfl, by rw [List.getElem?_set_self hl]⟩, h2.frame fun i hi => ?_⟩, h3⟩
 rw [zb9]
 rintro rfl
 exact hn hi
theorem Sep.own {x t : AV} {ty : Nat} (h : Sep H L) (p : Pk L (.own x ty t) L') : Bn x = true ∧ Iq A4 E0.tp 6 ty t ∧ ∃ I, Dq A4 E0.tp H 6 ty x = some (t, I) ∧ I.Nodup := by
 obtain ⟨I, ⟨J, R, rfl, ⟨h0, h1, h1'⟩, h2⟩, h3⟩ := h.pick p
 exact ⟨h0, h1, J, h1', (zba.1 h3).1⟩
theorem Sep.seen {x t y t' : AV} {ty ty' : Nat} (h : Sep H L) (p : Pk L (.shr x ty t y ty' t') L') : Iq A4 E0.tp 6 ty' t' ∧ ∃ I, Dq A4 E0.tp H 6 ty' y = some (t', I) := by
 obtain ⟨I, ⟨J, R, rfl, ⟨h0, h1, J', h1', h3⟩, h2⟩, h4⟩ := h.pick p
 exact ⟨h1, J', h1'⟩
theorem Sep.ofShs {x t : AV} {ty : Nat} {ys : List (AV × Nat × AV)} (h : Sep H L) (p : Pk L (.shs x ty t ys) L') : Sep H (.own x ty t :: L') := by
 obtain ⟨I, ⟨J, R, rfl, ⟨h0, _⟩, h2⟩, h3⟩ := h.pick p
 exact ⟨J ++ R, ⟨J, R, rfl, h0, h2⟩, h3⟩
theorem Sep.seenS {x t : AV} {ty k : Nat} {ys : List (AV × Nat × AV)} {q : AV × Nat × AV} (h : Sep H L) (p : Pk L (.shs x ty t ys) L') (hk : ys[k]? = some q) : Iq A4 E0.tp 6 q.2.1 q.2.2 ∧ ∃ I, Dq A4 E0.tp H 6 q.2.1 q.1 = some (q.2.2, I) := by
 obtain ⟨I, ⟨J, R, rfl, ⟨h0, h1⟩, h2⟩, h4⟩ := h.pick p
 obtain ⟨g1, J', g2, _⟩ := h1 q (List.mem_of_getElem? hk)
 exact ⟨g1, J', g2⟩
theorem Sep.nl {ty : Nat} (h : Sep H L) (hty : ∃ i j, A4 ty = some i ∧ A4 i.elem = some j) : Sep H (.own .nl ty (.ro 0 []) :: L) := by
 obtain ⟨I, h1, h2⟩ := h
 obtain ⟨i, j, e1, e2⟩ := hty
 exact ⟨[] ++ I, ⟨[], I, rfl, ⟨rfl, ⟨i, j, e1, e2, by simp, by simp [Hg]⟩, rfl⟩, h1⟩, h2⟩
inductive OwnR : List Ck → List AV → List Nat → List AV → List Ck → Prop
 | nil {L : List Ck} : OwnR L [] [] [] L
 | sc {L L' : List Ck} {v : Value} {raw cells : List AV} {ty : Nat} {tys : List Nat} : OwnR L raw tys cells L' → OwnR L (.sc v :: raw) (ty :: tys) (.sc v :: cells) L'
 | nl {L L' : List Ck} {raw cells : List AV} {ty : Nat} {tys : List Nat} : OwnR L raw tys cells L' → OwnR L (.nl :: raw) (ty :: tys) (.ro 0 [] :: cells) L'
 | own {L L1 L' : List Ck} {x t : AV} {raw cells : List AV} {ty : Nat} {tys : List Nat} : Pk L (.own x ty t) L1 → OwnR L1 raw tys cells L' → OwnR L (x :: raw) (ty :: tys) (t :: cells) L'
 | agg {L L1 L' : List Ck} {cs ts raw cells : List AV} {ty : Nat} {tys cty : List Nat} : (∃ i, A4 ty = some i ∧ i.cty = cty) → OwnR L cs cty ts L1 → OwnR L1 raw tys cells L' → OwnR L (.agg cs :: raw) (ty :: tys) (.agg ts :: cells) L'
theorem OwnR.sound : ∀ {L L' : List Ck} {raw cells : List AV} {tys : List Nat} {I : List Nat}, OwnR L raw tys cells L' → SepI H L I → ∀ d, Hg (Iq A4 E0.tp d) tys cells → ∃ J R, Em (Dq A4 E0.tp H d) tys raw = some (cells, J) ∧ SepI H L' R ∧ I.Perm (J ++ R)
 | _, _, _, _, _, I, .nil, h, d, _ => ⟨[], I, rfl, h, zb7.refl _⟩
 | _, _, _, _, _, I, .sc q, h, d + 1, ho => by
  obtain ⟨J, R, h1, h2, h3⟩ := q.sound h (d + 1) ho.2
  refine ⟨J, R, ?_, h2, h3⟩
  rw [Em, Wj, zad, h1]
  rfl
 | _, _, _, _, _, I, .nl q, h, d + 1, ho => by
  obtain ⟨J, R, h1, h2, h3⟩ := q.sound h (d + 1) ho.2
  refine ⟨J, R, ?_, h2, h3⟩
  rw [Em, show Dq A4 E0.tp H (d + 1) _ .nl = some (.ro 0 [], []) from rfl, zad, h1]
  rfl
 | _, _, _, _, _, I, .own p q, h, d, ho => by
  obtain ⟨J1, R1, g1, g2, g3⟩ := p.sepI h
  obtain ⟨J, R, h1, h2, h3⟩ := q.sound g2 d ho.2
  have e := Jl 6 d _ _ _ _ g1.2.2 ho.1
  refine ⟨J1 ++ J, R, ?_, h2, ?_⟩
  ·rw [Em, e, zad, h1]
   rfl
  ·refine g3.trans ?_
   rw [zah]
   exact zb7.append_left J1 h3
 | _, _, _, _, _, I, .agg hty p q, h, d + 1, ho => by
  obtain ⟨i, e1, rfl⟩ := hty
  obtain ⟨i', g1, g2⟩ := ho.1
  rw [e1] at g1
  cases g1
  obtain ⟨J1, R1, a1, a2, a3⟩ := p.sound h (d + 1) (AfS g2 (Nat.le_succ d))
  obtain ⟨J, R, h1, h2, h3⟩ := q.sound a2 (d + 1) ho.2
  have a1' := Nz (fun ty x t I h ho => Jl (d + 1) d ty x t I h ho) _ _ _ _ a1 g2
  refine ⟨J1 ++ J, R, ?_, h2, ?_⟩
  ·rw [Em, Is, e1, zad, a1', zad, zad, h1]
   rfl
  ·refine a3.trans ?_
   rw [zah]
   exact zb7.append_left J1 h3
 | _, _, _, _, _, I, .sc q, h, 0, ho => by cases ho.1
 | _, _, _, _, _, I, .nl q, h, 0, ho => by cases ho.1
 | _, _, _, _, _, I, .agg _ p q, h, 0, ho => by cases ho.1
end
end
section
open Go
theorem C6 {a0 x : Ck} {L : List Ck} : Pk (a0 :: x :: L) x (a0 :: L) := .there (.here)
theorem Do {a0 a1 x : Ck} {L : List Ck} : Pk (a0 :: a1 :: x :: L) x (a0 :: a1 :: L) := .there (.there (.here))
theorem Ls {a0 a1 a2 x : Ck} {L : List Ck} : Pk (a0 :: a1 :: a2 :: x :: L) x (a0 :: a1 :: a2 :: L) := .there (.there (.there (.here)))
theorem Lt {a0 a1 a2 a3 x : Ck} {L : List Ck} : Pk (a0 :: a1 :: a2 :: a3 :: x :: L) x (a0 :: a1 :: a2 :: a3 :: L) := .there (.there (.there (.there (.here))))
theorem Uk {a0 a1 a2 a3 a4 x : Ck} {L : List Ck} : Pk (a0 :: a1 :: a2 :: a3 :: a4 :: x :: L) x (a0 :: a1 :: a2 :: a3 :: a4 :: L) := .there (.there (.there (.there (.there (.here)))))
theorem Ww {a0 a1 a2 a3 a4 a5 x : Ck} {L : List Ck} : Pk (a0 :: a1 :: a2 :: a3 :: a4 :: a5 :: x :: L) x (a0 :: a1 :: a2 :: a3 :: a4 :: a5 :: L) := .there (.there (.there (.there (.there (.there (.here))))))
theorem zP7 {a0 a1 a2 a3 a4 a5 a6 x : Ck} {L : List Ck} : Pk (a0 :: a1 :: a2 :: a3 :: a4 :: a5 :: a6 :: x :: L) x (a0 :: a1 :: a2 :: a3 :: a4 :: a5 :: a6 :: L) := .there (.there (.there (.there (.there (.there (.there (.here)))))))
theorem zP8 {a0 a1 a2 a3 a4 a5 a6 a7 x : Ck} {L : List Ck} : Pk (a0 :: a1 :: a2 :: a3 :: a4 :: a5 :: a6 :: a7 :: x :: L) x (a0 :: a1 :: a2 :: a3 :: a4 :: a5 :: a6 :: a7 :: L) := .there (.there (.there (.there (.there (.there (.there (.there (.here))))))))
def Gd {β : Type} (G : Option β → Prop) (o : Option β) : Prop := G o
section
variable {β : Type} {n : Nat} {H : Ae} {L L' L1 L2 : List Ck} {G : Option β → Prop} {K : AV → Option β} {KH : KO β}
theorem Eg {a b : Option β} (e : a = b) (h : Gd G b) : Gd G a := by rw [e]; exact h
theorem Hw {cs : List AV} (hs : Sep H L) (h : ∀ i H', Sep H' (.blk i cs true :: L) → Gd G (KH (.ptr i 0) H')) : Gd G (Wm cs H fun x H => KH x H) :=
 h _ _ (hs.new (J := [H.length]) ⟨rfl, by rw [zai (zam _), zaP]; rfl⟩ (by simp) (by simp))
theorem Ct {k w : Nat} {cs : List AV} {a : Bool} (hs : Sep H L) (h : ∀ i H', Sep H' (.blk i cs a :: L) → Gd G (KH (.sl i 0 k w) H')) : Gd G (Hz k w cs a H fun x H => KH x H) :=
 h _ _ (hs.new (J := [H.length]) ⟨rfl, by rw [zai (zam _), zaP]; rfl⟩ (by simp) (by simp))
theorem Lg {x : AV} {cs : List AV} (hs : Sep H L) (hc : Fl x = some cs) (h : ∀ i H', Sep H' (.blk i cs true :: L) → Gd G (KH (.ptr i 0) H')) : Gd G (Yc x H fun x H => KH x H) := by
 refine Eg (b := Wm cs H fun x H => KH x H) ?_ (Hw hs h)
 show (Fl x).bind _ = _
 rw [hc]
 rfl
theorem F4 {cs : List AV} (h : cs.all Mw = true) : Fl (.agg cs) = some cs := Xq h
theorem Am {cs : List AV} (h : cs.all Bn = true) : Fl (.agg cs) = some cs := by
 show (if cs.all Bn then some cs else none) = _
 rw [if_pos h]
theorem Ad {x : AV} {xs : List AV} (h : Bn x = true) (hs : xs.all Bn = true) : (x :: xs).all Bn = true := by
 rw [zap, h, hs]
 rfl
theorem Ef {x : AV} (h : Bn x = true) : Fl x = some [x] := by
 cases x <;> simp_all [Fl, Bn]
theorem Aq {i o : Nat} {cs : List AV} {a : Bool} {c : AV} (hs : Sep H L) (hp : Pk L (.blk i cs a) L1) (hc : cs[o]? = some c) (h : Gd G (K c)) : Gd G (D1 false 1 (.ptr i o) H fun x => K x) := by
 refine Eg ?_ h
 obtain ⟨hlt, he⟩ := zae.1 hc
 have e : Bf H i o 1 = some [c] := by
  simp only [Bf, hs.blk hp, if_true]
  rw [if_pos (by omega), zaA hlt, he]
  rfl
 exact ldF e _
theorem AiV {i o w : Nat} {cs ds : List AV} {a : Bool} (hs : Sep H L) (hp : Pk L (.blk i cs a) L1) (hl : o + w ≤ cs.length) (hc : (cs.drop o).take w = ds) (h : Gd G (K (.agg ds))) : Gd G (D1 true w (.ptr i o) H fun x => K x) := by
 refine Eg ?_ h
 have e : Bf H i o w = some ds := by
  simp only [Bf, hs.blk hp, if_true]
  rw [if_pos hl, hc]
 exact ldT e _
theorem Av {i w : Nat} {cs : List AV} {a : Bool} (hs : Sep H L) (hp : Pk L (.blk i cs a) L1) (hl : cs.length = w) (h : Gd G (K (.agg cs))) : Gd G (D1 true w (.ptr i 0) H fun x => K x) :=
 AiV hs hp (by omega) (by rw [zaS, ← hl, zaJ]) h
theorem Cm {i o w : Nat} {cs cs' ds : List AV} {a : Bool} {y : AV} {KS : Ae → Option β} (hs : Sep H L) (hp : Pk L (.blk i cs a) L1) (hy : Fl y = some ds) (hd : ds.length = w) (hl : o + w ≤ cs.length) (hc : F6 cs o ds = cs') (h : ∀ H', Sep H' (.blk i cs' a :: L1) → Gd G (KS H')) : Gd G (Gb w (.ptr i o) y H fun H => KS H) := by
 have hb := hs.blk hp
 refine Eg (Ym w i o y ⟨cs, true, a⟩ ds H _ hb hy hd hl rfl) ?_
 have := hs.put hp cs' a
 rw [← hc] at this
 exact h _ (by rw [← hc]; exact this)
theorem Fc {cells : List AV} {c : AV} (hc : cells[0]? = some c) (h : Gd G (K c)) : Gd G (D1 false 1 (.rp cells) H fun x => K x) := by
 cases cells with
 | nil => cases hc
 | cons x xs =>
  obtain rfl : x = c := by simpa using hc
  refine Eg (Pe x xs H _) h
theorem AgK {w : Nat} {cs rest : List AV} (hw : cs.length = w) (h : Gd G (K (.agg cs))) : Gd G (D1 true w (.rp (cs ++ rest)) H fun x => K x) := Eg (AdR w cs rest H _ hw) h
theorem Ab {o i off o' : Nat} (e : off + o = o') (h : Gd G (K (.ptr i o'))) : Gd G (G9 o (.ptr i off) fun x => K x) := by subst e; exact h
theorem Od {o : Nat} {cells : List AV} (h : Gd G (K (.rp (cells.drop o)))) : Gd G (G9 o (.rp cells) fun x => K x) := h
theorem Dj {id off : Nat} (h : Gd G (K (.ptr id off))) : Gd G (AfZ (.ptr id off) fun t => K t) := h
theorem Js {z cs z' r : List AV} {o n : Nat} {v : AV} {rest : List (Nat × Nat × AV)} (h : Fl v = some cs) (hl : cs.length = n) (ho : o + n ≤ z.length) (hz : F6 z o cs = z') (h2 : Ky z' rest = some r) : Ky z ((o, n, v) :: rest) = some r := by
 subst hz
 subst hl
 simp only [Ky, h, zad, if_true, if_pos ho]
 exact h2
theorem Bh {zs cs : List AV} {ps : List (Nat × Nat × AV)} {KL : List AV → Option β} (hf : Ky zs ps = some cs) (h : Gd G (KL cs)) : Gd G ((Ky zs ps).bind fun c => KL c) := by
 rw [hf]
 exact h
theorem Bs {i : Nat} {vs : List AV} {v : AV} (hv : vs[i]? = some v) (h : Gd G (K v)) : Gd G (Vk (.tup vs) i fun x => K x) := by
 refine Eg ?_ h
 show (vs[i]?).bind _ = _
 rw [hv]
 rfl
theorem C4 {m : Nat} {cs : List AV} (h : Gd G (K (.sc (.int .i64 m)))) : Gd G (L9 (.ro m cs) fun x => K x) := h
theorem AdE {s : ByteArray} (h : Gd G (K (.sc (.int .i64 s.size)))) : Gd G (Vl (.sc (.string s)) fun x => K x) := h
theorem AfN {d ty m : Nat} {x : AV} {cells : List AV} {I : List Nat} (h : Dq A4 E0.tp H d ty x = some (.ro m cells, I)) : I0 x = some m := by
 cases d with
 | zero => simp [Dq] at h
 | succ d =>
  cases x with
  | sc v => simp [Dq] at h
  | nl =>
   have := (Option.some.inj h)
   simp only [Prod.mk.injEq, AV.ro.injEq] at this
   rw [← this.1.1]
   rfl
  | sl id off n z =>
   rw [It] at h
   simp only [zab] at h
   obtain ⟨i, h1, j, h2, h3⟩ := h
   split at h3
   case isFalse => cases h3
   split at h3
   case isFalse => cases h3
   simp only [zab] at h3
   obtain ⟨cs, h4, q, h5, h6⟩ := h3
   obtain ⟨h7, -⟩ : AV.ro n q.1 = .ro m cells ∧ _ := by simpa only [Prod.mk.injEq, Option.some.injEq] using h6
   cases h7
   rfl
  | agg cs =>
   rw [Is] at h
   simp only [zab] at h
   obtain ⟨i, h1, q, h2, h3⟩ := h
   simp at h3
  | tup cs =>
   rw [Jp] at h
   simp only [zab] at h
   obtain ⟨i, h1, q, h2, h3⟩ := h
   simp at h3
  | _ => simp [Dq] at h
theorem Jb {x : AV} {ty m : Nat} {cells : List AV} (hs : Sep H L) (hp : Pk L (.own x ty (.ro m cells)) L1) (h : Gd G (K (.sc (.int .i64 m)))) : Gd G (L9 x fun x => K x) := by
 obtain ⟨_, _, I, e, _⟩ := hs.own hp
 have hl := AfN e
 refine Eg ?_ h
 have key : ∀ (x : AV), (∀ v, x ≠ .sc v) → I0 x = some m → L9 x K = K (.sc (.int .i64 m)) := by
  intro x hx hl
  cases x with
  | sc v => exact absurd rfl (hx v)
  | nl => cases hl; rfl
  | ro n cs => cases hl; rfl
  | sl a b c d => cases hl; rfl
  | _ => cases hl
 refine key x (fun v hv => ?_) hl
 subst hv
 simp [Dq] at e
theorem Ov {op : BinOp} {x y v : AV} (e : ∀ k : AV → Option β, En op x y k = k v) (h : Gd G (K v)) : Gd G (En op x y fun t => K t) := Eg (e _) h
theorem Bd {a b : Int} (h : Gd G (K (.sc (.bool (decide (a = b)))))) : Gd G (En .eql (.sc (.int .i64 a)) (.sc (.int .i64 b)) fun t => K t) := h
theorem Lh {a b : Int} (h : Gd G (K (.sc (.bool (!decide (a = b)))))) : Gd G (En .neq (.sc (.int .i64 a)) (.sc (.int .i64 b)) fun t => K t) := h
theorem D4 {a b : Int} (h : Gd G (K (.sc (.bool (decide (a < b)))))) : Gd G (En .lss (.sc (.int .i64 a)) (.sc (.int .i64 b)) fun t => K t) := h
theorem J2 {a b : Int} (h : Gd G (K (.sc (.bool (decide (a ≤ b)))))) : Gd G (En .leq (.sc (.int .i64 a)) (.sc (.int .i64 b)) fun t => K t) := h
theorem Eo {a b : Int} (h : Gd G (K (.sc (.bool (decide (b < a)))))) : Gd G (En .gtr (.sc (.int .i64 a)) (.sc (.int .i64 b)) fun t => K t) := h
theorem AgJ {a b : Int} (h : Gd G (K (.sc (.bool (decide (b ≤ a)))))) : Gd G (En .geq (.sc (.int .i64 a)) (.sc (.int .i64 b)) fun t => K t) := h
theorem Ca {a b : Int} (h0 : -9223372036854775808 ≤ a + b) (h1 : a + b ≤ 9223372036854775807) (h : Gd G (K (.sc (.int .i64 (a + b))))) : Gd G (En .add (.sc (.int .i64 a)) (.sc (.int .i64 b)) fun t => K t) := by
 refine Eg ?_ h
 show K (.sc (.int .i64 (IntKind.i64.wrap (a + b)))) = _
 rw [Iv _ h0 h1]
theorem Nt {a b : Int} (h0 : -9223372036854775808 ≤ a - b) (h1 : a - b ≤ 9223372036854775807) (h : Gd G (K (.sc (.int .i64 (a - b))))) : Gd G (En .sub (.sc (.int .i64 a)) (.sc (.int .i64 b)) fun t => K t) := by
 refine Eg ?_ h
 show K (.sc (.int .i64 (IntKind.i64.wrap (a - b)))) = _
 rw [Iv _ h0 h1]
theorem Px {a b : Int} (h0 : -9223372036854775808 ≤ a * b) (h1 : a * b ≤ 9223372036854775807) (h : Gd G (K (.sc (.int .i64 (a * b))))) : Gd G (En .mul (.sc (.int .i64 a)) (.sc (.int .i64 b)) fun t => K t) := by
 refine Eg ?_ h
 show K (.sc (.int .i64 (IntKind.i64.wrap (a * b)))) = _
 rw [Iv _ h0 h1]
theorem AdD {a b : ByteArray} (h : Gd G (K (.sc (.bool (a.toList == b.toList))))) : Gd G (En .eql (.sc (.string a)) (.sc (.string b)) fun t => K t) := h
theorem Qs {a b : ByteArray} (h : Gd G (K (.sc (.bool (!(a.toList == b.toList)))))) : Gd G (En .neq (.sc (.string a)) (.sc (.string b)) fun t => K t) := h
theorem C5 {b : Bool} (h : Gd G (K (.sc (.bool (!b))))) : Gd G (pUn .not (.sc (.bool b)) fun t => K t) := h
theorem Dn {α : Sort _} {γ : Type} {G : Option γ → Prop} {x : α} {f : α → Option γ} (h : Gd G (f x)) : Gd G (E4 x f) := h
theorem Au {b : Bool} {x y : Option β} (hb : b = true) (h : Gd G x) : Gd G (Gn (.sc (.bool b)) x y) := by subst hb; exact h
theorem Ax {b : Bool} {x y : Option β} (hb : b = false) (h : Gd G y) : Gd G (Gn (.sc (.bool b)) x y) := by subst hb; exact h
theorem Af {b t : Bool} {m : (KO β) → Option β} (hb : b = t) (h : Gd G (m fun x H => KH x H)) : Gd G (Jg (.sc (.bool b)) t H m fun x H => KH x H) := by
 subst hb
 cases b <;> exact h
theorem Ac {b t : Bool} {m : (KO β) → Option β} (hb : b = !t) (h : Gd G (KH (.sc undef) H)) : Gd G (Jg (.sc (.bool b)) t H m fun x H => KH x H) := by
 subst hb
 cases t <;> exact h
theorem D7 {t : Bool} {m : (KO β) → Option β} (h : Gd G (KH (.sc undef) H)) : Gd G (Jg (.sc undef) t H m fun x H => KH x H) := h
theorem B4 {b : Bool} {x y : AV} (hb : b = true) (h : Gd G (K x)) : Gd G (N2 (.sc (.bool b)) x y fun t => K t) := by
 subst hb
 cases x <;> cases y <;> exact h
theorem A6 {b : Bool} {x y : AV} (hb : b = false) (h : Gd G (K y)) : Gd G (N2 (.sc (.bool b)) x y fun t => K t) := by
 subst hb
 cases x <;> cases y <;> exact h
inductive VwC (L : List Ck) : Nat → AV → AV → Prop
 | sc {d : Nat} {v : Value} : VwC L (d + 1) (.sc v) (.sc v)
 | nl {d : Nat} : VwC L (d + 1) .nl (.ro 0 [])
 | ro {d n : Nat} {cs : List AV} : VwC L (d + 1) (.ro n cs) (.ro n cs)
 | rp {d : Nat} {cs : List AV} : VwC L (d + 1) (.rp cs) (.rp cs)
 | own {d : Nat} {x t : AV} {ty : Nat} {L' : List Ck} : 6 ≤ d → Pk L (.own x ty t) L' → VwC L d x t
 | shr {d : Nat} {x t y t' : AV} {ty ty' : Nat} {L' : List Ck} : 6 ≤ d → Pk L (.shr x ty t y ty' t') L' → VwC L d y t'
 | shsE {d k : Nat} {x t y t' : AV} {ty ty' : Nat} {ys : List (AV × Nat × AV)} {L' : List Ck} : 6 ≤ d → Pk L (.shs x ty t ys) L' → ys[k]? = some (y, ty', t') → VwC L d y t'
 | shsO {d : Nat} {x t : AV} {ty : Nat} {ys : List (AV × Nat × AV)} {L' : List Ck} : 6 ≤ d → Pk L (.shs x ty t ys) L' → VwC L d x t
end
inductive VwL (L : List Ck) : Nat → List AV → List AV → Prop
 | nil {d : Nat} : VwL L d [] []
 | cons {d : Nat} {x t : AV} {xs ts : List AV} : VwC L d x t → VwL L d xs ts → VwL L d (x :: xs) (t :: ts)
 | agg {d : Nat} {cs ds xs ts : List AV} : VwL L d cs ds → VwL L (d + 1) xs ts → VwL L (d + 1) (.agg cs :: xs) (.agg ds :: ts)
 | aggF {d : Nat} {cs xs ts : List AV} : cs.all Mw = true → VwL L (d + 2) xs ts → VwL L (d + 2) (.agg cs :: xs) (.agg cs :: ts)
 | sl {d i k w : Nat} {cs ds xs ts : List AV} {a : Bool} {L' : List Ck} : Pk L (.blk i cs a) L' → cs.length = k * w → VwL L d cs ds → VwL L (d + 1) xs ts → VwL L (d + 1) (.sl i 0 k w :: xs) (.ro k ds :: ts)
 | slA {d i o k w : Nat} {cs ds xs ts : List AV} {a : Bool} {L' : List Ck} : Pk L (.blk i cs a) L' → o + k * w ≤ cs.length → VwL L d ((cs.drop o).take (k * w)) ds → VwL L (d + 1) xs ts → VwL L (d + 1) (.sl i o k w :: xs) (.ro k ds :: ts)
 | ptr {d i : Nat} {cs ds xs ts : List AV} {a : Bool} {L' : List Ck} : Pk L (.blk i cs a) L' → VwL L d cs ds → VwL L (d + 1) xs ts → VwL L (d + 1) (.ptr i 0 :: xs) (.rp ds :: ts)
 | fn {d f : Nat} {ps cs ps' cs' xs ts : List AV} : VwL L d ps ps' → VwL L d cs cs' → VwL L (d + 1) xs ts → VwL L (d + 1) (.fn f ps cs :: xs) (.fn f ps' cs' :: ts)
section
variable {β : Type} {n : Nat} {H : Ae} {L L' L1 L2 : List Ck} {G : Option β → Prop} {K : AV → Option β} {KH : KO β}
theorem VwC.sound (hs : Sep H L) {d : Nat} {x t : AV} (h : VwC L d x t) : D5 H d x = some t := by
 cases h with
 | sc => rfl
 | nl => rfl
 | ro => rfl
 | rp => rfl
 | own hd hp =>
  obtain ⟨_, h1, I, h2, _⟩ := hs.own hp
  exact N1 d _ _ _ I (Jl 6 d _ _ _ _ h2 (Cg h1 hd))
 | shr hd hp =>
  obtain ⟨h1, I, h2⟩ := hs.seen hp
  exact N1 d _ _ _ I (Jl 6 d _ _ _ _ h2 (Cg h1 hd))
 | shsE hd hp hk =>
  obtain ⟨h1, I, h2⟩ := hs.seenS hp hk
  exact N1 d _ _ _ I (Jl 6 d _ _ _ _ h2 (Cg h1 hd))
 | shsO hd hp =>
  obtain ⟨_, h1, I, h2, _⟩ := (hs.ofShs hp).own .here
  exact N1 d _ _ _ I (Jl 6 d _ _ _ _ h2 (Cg h1 hd))
theorem Ji {d : Nat} {x t : AV} {xs ts : List AV} (h : D5 H d x = some t) (hs : xs.mapM (D5 H d) = some ts) : (x :: xs).mapM (D5 H d) = some (t :: ts) := by
 simp only [zaG, h, hs, zbc, zaM, zad]
theorem VwL.sound (hs : Sep H L) : ∀ {d : Nat} {xs ts : List AV}, VwL L d xs ts → xs.mapM (D5 H d) = some ts
 | _, _, _, .nil => rfl
 | _, _, _, .cons h q => Ji (h.sound hs) (q.sound hs)
 | _, _, _, .agg h q => Ji (by rw [Oo, h.sound hs]; rfl) (q.sound hs)
 | _, _, _, .aggF h q => Ji (by rw [Oo, V7 h]; rfl) (q.sound hs)
 | _, _, _, .sl (i := i) (k := k) (w := w) (cs := cs) hp hl h q => Ji (by
   rw [Ql]
   have hb := hs.blk hp
   have e : Bf H i 0 (k * w) = some cs := by
    simp only [Bf, hb, if_true, zaS, za3, ← hl, zam, zaJ]
   rw [e, zad, h.sound hs]
   rfl) (q.sound hs)
 | _, _, _, .slA (i := i) (o := o) (k := k) (w := w) (cs := cs) hp hl h q => Ji (by
   rw [Ql]
   have hb := hs.blk hp
   have e : Bf H i o (k * w) = some ((cs.drop o).take (k * w)) := by
    simp only [Bf, hb, if_true, hl]
   rw [e, zad, h.sound hs]
   rfl) (q.sound hs)
 | _, _, _, .ptr (i := i) (cs := cs) hp h q => Ji (by
   have hb := hs.blk hp
   show ((H[i]?).bind fun b => (Bf H i 0 (b.cells.length - 0)).bind fun cs => (cs.mapM (D5 H _)).bind fun vs => some (AV.rp vs)) = _
   rw [hb, zad]
   have e : Bf H i 0 (cs.length - 0) = some cs := by
    simp only [Bf, hb, if_true, zaS, za3, Nat.sub_zero, zam, zaJ]
   show (Bf H i 0 (cs.length - 0)).bind _ = _
   rw [e, zad, h.sound hs]
   rfl) (q.sound hs)
 | _, _, _, .fn (d := d) (ps := ps) (cs := cs) h1 h2 q => Ji (by
   show ((ps.mapM (D5 H d)).bind fun us => (cs.mapM (D5 H d)).bind fun ws => some (AV.fn _ us ws)) = _
   rw [h1.sound hs, zad, h2.sound hs]
   rfl) (q.sound hs)
theorem R9 {ty : Nat} {f : FuncId} {caps args vs : List AV} {t : AV} (hs : Sep H L) (hh : Gu f = false) (hv : VwL L 8 (args ++ caps) vs) (ht : Di E0 n ty f vs = some t) (h : Gd G (KH (Dd A4 E0.tp H.length ty t).1 (H ++ (Dd A4 E0.tp H.length ty t).2))) : Gd G ((PR n β).call ty (.fn f [] caps) args H fun x H => KH x H) := Eg (Acs hh (hv.sound hs) ht) h
theorem Ar {ty : Nat} {f : FuncId} {args vs : List AV} {v : Value} (hs : Sep H L) (hh : Gu f = false) (hv : VwL L 8 args vs) (ht : Di E0 n ty f vs = some (.sc v)) (h : Gd G (KH (.sc v) H)) : Gd G ((PR n β).call ty (.fn f [] []) args H fun x H => KH x H) := by
 refine R9 hs hh (by rw [zao]; exact hv) ht ?_
 rw [H6, zao]
 exact h
theorem Xv {ty m : Nat} {cells : List AV} (hs : Sep H L) (hok : Iq A4 E0.tp 6 ty (.ro m cells)) : Bn (Dd A4 E0.tp H.length ty (.ro m cells)).1 = true ∧ Sep (H ++ (Dd A4 E0.tp H.length ty (.ro m cells)).2) (.own (Dd A4 E0.tp H.length ty (.ro m cells)).1 ty (.ro m cells) :: L) := by
 have hl : Bn (Dd A4 E0.tp H.length ty (.ro m cells)).1 = true := rfl
 refine ⟨hl, hs.new (J := List.range' H.length (Dd A4 E0.tp H.length ty (.ro m cells)).2.length) ⟨hl, hok, Tq 6 ty _ H.length hok (W1 _ _)⟩ List.nodup_range' fun i hi => ?_⟩
 rw [List.mem_range'_1] at hi
 exact hi.1
theorem Cl {ty m : Nat} {f : FuncId} {args vs cells : List AV} (hs : Sep H L) (hh : Gu f = false) (hv : VwL L 8 args vs) (ht : Di E0 n ty f vs = some (.ro m cells)) (hok : Iq A4 E0.tp 6 ty (.ro m cells)) (h : ∀ x H', Bn x = true → Sep H' (.own x ty (.ro m cells) :: L) → Gd G (KH x H')) : Gd G ((PR n β).call ty (.fn f [] []) args H fun x H => KH x H) := by
 refine R9 hs hh (by rw [zao]; exact hv) ht ?_
 obtain ⟨h1, h2⟩ := Xv hs hok
 exact h _ _ h1 h2
def InsL (ts : List Nat) (cs : List AV) (Φ : List AV → List Ck → Prop) : Prop := ∀ (H : Ae) (L : List Ck), Sep H L → ∃ xs Lx, xs = (Cn A4 E0.tp H.length ts cs).1 ∧ Sep (H ++ (Cn A4 E0.tp H.length ts cs).2) (Lx ++ L) ∧ Φ xs Lx
theorem Eh {ts : List Nat} : InsL ts [] fun xs Lx => xs = [] ∧ Lx = [] := fun H L hs => ⟨[], [], rfl, by simpa [Cn] using hs, rfl, rfl⟩
theorem Bk {ts : List Nat} {v : Value} {cs : List AV} {Φ : List AV → List Ck → Prop} (h : InsL ts.tail cs Φ) : InsL ts (.sc v :: cs) fun xs Lx => ∃ ys, xs = .sc v :: ys ∧ Φ ys Lx := fun H L hs => by
 obtain ⟨ys, Ly, e1, e2, e3⟩ := h H L hs
 refine ⟨.sc v :: ys, Ly, ?_, ?_, ys, rfl, e3⟩
 ·simp only [Cn, H6, zat, zaZ]
  rw [e1]
 ·simpa only [Cn, H6, zat, zaZ, zak] using e2
theorem Jd {ts : List Nat} {m ty : Nat} {cells cs : List AV} {Φ : List AV → List Ck → Prop} (hty : ts.headD 0 = ty) (hok : Iq A4 E0.tp 6 ty (.ro m cells)) (h : InsL ts.tail cs Φ) : InsL ts (.ro m cells :: cs) fun xs Lx => ∃ x ys Ly, Bn x = true ∧ xs = x :: ys ∧ Lx = Ly ++ [.own x ty (.ro m cells)] ∧ Φ ys Ly := fun H L hs => by
 subst hty
 obtain ⟨h1, h2⟩ := Xv hs hok
 obtain ⟨ys, Ly, e1, e2, e3⟩ := h _ _ h2
 refine ⟨_ :: ys, Ly ++ [.own _ (ts.headD 0) (.ro m cells)], ?_, ?_, _, ys, Ly, h1, rfl, rfl, e3⟩
 ·simp only [Cn]
  rw [e1, zag]
 ·simp only [Cn]
  rw [zag, zah] at e2
  rw [zah]
  exact e2
theorem AaD {ts cty : List Nat} {cs rest : List AV} {Φ Ψ : List AV → List Ck → Prop} (hty : ∃ i, A4 (ts.headD 0) = some i ∧ i.cty = cty) (h1 : InsL cty cs Ψ) (h : InsL ts.tail rest Φ) : InsL ts (.agg cs :: rest) fun xs Lx => ∃ ys zs Ly Lz, xs = .agg ys :: zs ∧ Lx = Lz ++ Ly ∧ Ψ ys Ly ∧ Φ zs Lz := fun H L hs => by
 obtain ⟨i, hi, rfl⟩ := hty
 obtain ⟨ys, Ly, a1, a2, a3⟩ := h1 H L hs
 obtain ⟨zs, Lz, b1, b2, b3⟩ := h _ _ a2
 refine ⟨.agg ys :: zs, Lz ++ Ly, ?_, ?_, ys, zs, Ly, Lz, rfl, rfl, a3, b3⟩
 ·simp only [Cn, Je, hi, zaO]
  rw [a1, b1, zag]
 ·simp only [Cn, Je, hi, zaO]
  rw [zag, zah] at b2
  rw [zah]
  exact b2
theorem Pw {ty : Nat} {f : FuncId} {args vs cs : List AV} {cty : List Nat} {Φ : List AV → List Ck → Prop} (hs : Sep H L) (hh : Gu f = false) (hv : VwL L 8 args vs) (ht : Di E0 n ty f vs = some (.agg cs)) (hty : ∃ i, A4 ty = some i ∧ i.cty = cty) (hi : InsL cty cs Φ) (h : ∀ xs Lx H', Φ xs Lx → Sep H' (Lx ++ L) → Gd G (KH (.agg xs) H')) : Gd G ((PR n β).call ty (.fn f [] []) args H fun x H => KH x H) := by
 refine R9 hs hh (by rw [zao]; exact hv) ht ?_
 obtain ⟨i, e1, rfl⟩ := hty
 obtain ⟨xs, Lx, a1, a2, a3⟩ := hi H L hs
 rw [Je, e1, zaO, ← a1]
 exact h _ _ _ a3 a2
theorem Ek {ty : Nat} {f : FuncId} {args vs cs : List AV} {tys : List Nat} {Φ : List AV → List Ck → Prop} (hs : Sep H L) (hh : Gu f = false) (hv : VwL L 8 args vs) (ht : Di E0 n ty f vs = some (.tup cs)) (hty : E0.tp ty = some tys) (hi : InsL tys cs Φ) (h : ∀ xs Lx H', Φ xs Lx → Sep H' (Lx ++ L) → Gd G (KH (.tup xs) H')) : Gd G ((PR n β).call ty (.fn f [] []) args H fun x H => KH x H) := by
 refine R9 hs hh (by rw [zao]; exact hv) ht ?_
 obtain ⟨xs, Lx, a1, a2, a3⟩ := hi H L hs
 rw [U1, hty, zaO, ← a1]
 exact h _ _ _ a3 a2
theorem Ja {ty : Nat} {f : FuncId} {caps args : List AV} (hh : E0.hm f = true) (he : E0.ext f = none) (h : Gd G (Ff E0 n β f (args ++ caps) H fun x H => KH x H)) : Gd G ((PR n β).call ty (.fn f [] caps) args H fun x H => KH x H) := by
 refine Eg ?_ h
 show M7 E0 (Ff E0 n) ty f ([] ++ args ++ caps) H _ = _
 simp only [M7, he, hh, zak, if_true]
def Src (H : Ae) (L : List Ck) (sz : Nat) (cty : List Nat) (y : AV) (m : Nat) (cb : List AV) (L' : List Ck) : Prop :=
 ∀ I, SepI H L I → ∃ raw J R X, I0 y = some m ∧ Ej H sz y = some raw ∧ raw.all Bn = true ∧ raw.length = m * sz ∧ Em (Dq A4 E0.tp H 5) (zaj m cty).flatten raw = some (cb, J) ∧ SepI H L' R ∧ I.Perm (J ++ (R ++ X))
def Nd : AV → Bool
 | .sc v => M9 v
 | _ => false
theorem U4 {l : List AV} (h : l.all Nd = true) : l.all Bn = true := by
 rw [za8] at h ⊢
 intro x hx
 have := h x hx
 cases x <;> simp_all [Nd, Bn]
theorem Ve {d : Nat} : ∀ {ts : List Nat} {l : List AV}, ts.length = l.length → l.all Nd = true → Em (Dq A4 E0.tp H (d + 1)) ts l = some (l, [])
 | [], [], _, _ => rfl
 | t :: ts, x :: l, h, hl => by
  rw [zap, zaf] at hl
  cases x with
  | sc v =>
   rw [Em, Wj, zad, Ve (ts := ts) (l := l) (by simpa using h) hl.2]
   rfl
  | _ => simp [Nd] at hl
 | [], _ :: _, h, _ => by simp at h
 | _ :: _, [], h, _ => by simp at h
theorem Aeq {sz m : Nat} {cty : List Nat} {cells : List AV} (hc : cty.length = sz) (hl : cells.length = m * sz) (hf : cells.all Nd = true) : Src H L sz cty (.ro m cells) m cells L := fun I h => by
 refine ⟨cells, [], I, [], rfl, ?_, U4 hf, hl, Ve (by simp [hc, hl]) hf, h, by simp⟩
 show (if cells.length = m * sz then some cells else none) = _
 rw [if_pos hl]
theorem Wr {sz m i : Nat} {cty : List Nat} {raw cb : List AV} {a : Bool} (hp : Pk L (.blk i raw a) L1) (hl : raw.length = m * sz) (hf : raw.all Bn = true) (hr : OwnR L1 raw (zaj m cty).flatten cb L2) (hok : Hg (Iq A4 E0.tp 5) (zaj m cty).flatten cb) : Src H L sz cty (.sl i 0 m sz) m cb L2 := fun I h => by
 obtain ⟨J, R, ⟨rfl, h1⟩, h2, h3⟩ := hp.sepI h
 obtain ⟨J', R', g1, g2, g3⟩ := hr.sound h2 5 hok
 refine ⟨raw, J', R', [i], rfl, ?_, hf, hl, g1, g2, ?_⟩
 ·show (if sz = sz then Bf H i 0 (m * sz) else none) = _
  simp only [if_true, Bf, h1, za3, zaS, ← hl, zam, zaJ]
 ·refine h3.trans (List.perm_append_comm.trans ?_)
  rw [← zah]
  exact zb7.append_right [i] g3
theorem Wk {d ty m : Nat} {x : AV} {cells : List AV} {I : List Nat} {i j : TI} (h1 : A4 ty = some i) (h2 : A4 i.elem = some j) (h : Dq A4 E0.tp H (d + 1) ty x = some (.ro m cells, I)) :
  (x = .nl ∧ m = 0 ∧ cells = [] ∧ I = []) ∨ ∃ id off raw J b, x = .sl id off m j.size ∧ I = id :: J ∧ H[id]? = some b ∧ b.live = true ∧ b.app = true ∧ Bf H id off (m * j.size) = some raw ∧ Em (Dq A4 E0.tp H d) (zaj m j.cty).flatten raw = some (cells, J) := by
 cases x with
 | sc v => simp [Dq] at h
 | nl =>
  have := (Option.some.inj h)
  simp only [Prod.mk.injEq, AV.ro.injEq] at this
  obtain ⟨⟨rfl, rfl⟩, rfl⟩ := this
  exact .inl ⟨rfl, rfl, rfl, rfl⟩
 | sl id off n z =>
  rw [It] at h
  simp only [h1, h2, zad] at h
  split at h
  case isFalse => cases h
  rename_i hz
  split at h
  case isFalse => cases h
  rename_i ha
  simp only [zab] at h
  obtain ⟨cs, h4, q, h5, h6⟩ := h
  simp only [Option.some.injEq, Prod.mk.injEq, AV.ro.injEq] at h6
  obtain ⟨⟨rfl, rfl⟩, rfl⟩ := h6
  subst hz
  obtain ⟨hl, b, hb, hlv, _, _⟩ := Jm h4
  have ha' : b.app = true := by simpa only [I5, hb] using ha
  exact .inr ⟨id, off, cs, q.2, b, rfl, rfl, hb, hlv, ha', h4, h5⟩
 | agg cs =>
  rw [Is] at h
  simp only [zab] at h
  obtain ⟨i, h1, q, h2, h3⟩ := h
  simp at h3
 | tup cs =>
  rw [Jp] at h
  simp only [zab] at h
  obtain ⟨i, h1, q, h2, h3⟩ := h
  simp at h3
 | _ => simp [Dq] at h
theorem Yl {sz m ty : Nat} {cty : List Nat} {y : AV} {cb : List AV} (hty : ∃ i j, A4 ty = some i ∧ A4 i.elem = some j ∧ j.size = sz ∧ j.cty = cty) (hp : Pk L (.own y ty (.ro m cb)) L2) (hf : cb.all Nd = true) : Src H L sz cty y m cb L := fun I h => by
 obtain ⟨i, j, e1, e2, rfl, rfl⟩ := hty
 obtain ⟨J, R, ⟨_, _, h1⟩, h2, h3⟩ := hp.sepI h
 rcases Wk e1 e2 h1 with ⟨rfl, rfl, rfl, rfl⟩ | ⟨id, off, raw, J', b, rfl, rfl, hb, hlv, ha, h4, h5⟩
 ·exact ⟨[], [], I, [], rfl, rfl, rfl, by simp, by simp [Em], h, by simp⟩
 ·have hl := (Jm h4).1
  have key : ∀ {ts : List Nat} {xs cells : List AV} {I : List Nat}, Em (Dq A4 E0.tp H 5) ts xs = some (cells, I) → cells.all Nd = true → xs = cells ∧ I = [] := by
   intro ts xs
   induction xs generalizing ts with
   | nil =>
    intro cells I h _
    obtain ⟨_, e⟩ := Ir h
    cases e
    exact ⟨rfl, rfl⟩
   | cons x xs ih =>
    intro cells I h hs
    cases ts with
    | nil => simp [Em] at h
    | cons t ts =>
     obtain ⟨a, b, h1, h2, e⟩ := Ht h
     cases e
     rw [zap, zaf] at hs
     obtain ⟨rfl, e2⟩ := ih h2 hs.2
     have hx : x = a.1 ∧ a.2 = [] := by
      obtain ⟨a1, a2⟩ := a
      cases a1 with
      | sc v =>
       have := Wl h1
       subst this
       have : (AV.sc v, ([] : List Nat)) = (.sc v, a2) := Option.some.inj h1
       cases this
       exact ⟨rfl, rfl⟩
      | _ => simp [Nd] at hs
     refine ⟨by rw [hx.1], by rw [hx.2, e2]; rfl⟩
  obtain ⟨rfl, rfl⟩ := key h5 hf
  refine ⟨raw, [], I, [], rfl, ?_, U4 hf, hl, h5, h, by simp⟩
  show (if j.size = j.size then Bf H id off (m * j.size) else none) = _
  rw [if_pos rfl, h4]
theorem AhN {sz bytes k m ty : Nat} {cty : List Nat} {x y : AV} {ca cb : List AV} (hs : Sep H L) (hty : ∃ i j, A4 ty = some i ∧ A4 i.elem = some j ∧ j.size = sz ∧ j.cty = cty) (hx : Pk L (.own x ty (.ro k ca)) L1) (hy : Src H L1 sz cty y m cb L2) (hok : Hg (Iq A4 E0.tp 5) (zaj m cty).flatten cb) (hb : (k + m) * bytes ≤ 140737488355328)
  (h : ∀ x' H', Bn x' = true → Sep H' (.own x' ty (.ro (k + m) (ca ++ cb)) :: L2) → (∃ id cx cy, x' = .sl id 0 (k + m) sz ∧ H'[id]? = some ⟨cx ++ cy, true, true⟩ ∧ Ej H sz y = some cy ∧ cx.length = k * sz) → Gd G (KH x' H')) : Gd G (K6 sz bytes x y H fun x H => KH x H) := by
 obtain ⟨i, j, e1, e2, rfl, rfl⟩ := hty
 obtain ⟨I, hI, hn⟩ := hs
 obtain ⟨J, R, ⟨hlx, hox, h1⟩, h2, h3⟩ := hx.sepI hI
 obtain ⟨raw, Jy, Ry, X, q1, q2, q3, q4, q5, q6, q7⟩ := hy R h2
 have hn' : (J ++ (Jy ++ (Ry ++ X))).Nodup := (h3.trans (zb7.append_left J q7)).nodup_iff.1 hn
 have hRlt : ∀ i ∈ Jy ++ Ry, i < H.length := fun z hz => by
  refine h2.lt z ?_
  refine q7.symm.mem_iff.1 ?_
  rw [← zah]
  exact zaF _ hz
 have hok' : Iq A4 E0.tp 6 ty (.ro (k + m) (ca ++ cb)) := by
  obtain ⟨i', j', g1, g2, g3, g4⟩ := hox
  rw [e1] at g1
  cases g1
  rw [e2] at g2
  cases g2
  refine ⟨i, j, e1, e2, ?_, ?_⟩
  ·have := X6 hok
   have hq := To q5
   rw [zag, g3, hq.2, q4, Nat.add_mul]
  ·rw [← List.replicate_append_replicate, zb1]
   exact Nx g4 hok
 have fin : ∀ (H1 : Ae) (cx : List AV) (Jx : List Nat), H1.length = H.length → cx.all Bn = true ∨ True → Em (Dq A4 E0.tp H1 5) (zaj k j.cty).flatten cx = some (ca, Jx) → Em (Dq A4 E0.tp H1 5) (zaj m j.cty).flatten raw = some (cb, Jy) → SepI H1 L2 Ry → (Jx ++ (Jy ++ (Ry ++ X))).Nodup → (∀ i ∈ Jx, i < H1.length) → cx.length = k * j.size →
   Sep (H1 ++ [⟨cx ++ raw, true, true⟩]) (.own (.sl H1.length 0 (k + m) j.size) ty (.ro (k + m) (ca ++ cb)) :: L2) := by
  intro H1 cx Jx hl1 _ a1 a2 a3 a4 a5 a6
  have hg : (H1 ++ [(⟨cx ++ raw, true, true⟩ : Iy)])[H1.length]? = some ⟨cx ++ raw, true, true⟩ := by
   rw [zai (zam _), zaP]
   rfl
  have fr : ∀ z, z < H1.length → (H1 ++ [(⟨cx ++ raw, true, true⟩ : Iy)])[z]? = H1[z]? := fun z hz => zal hz
  have b1 := G2 (f' := Dq A4 E0.tp (H1 ++ [⟨cx ++ raw, true, true⟩]) 5) (fun t x a h hi => F2 5 t x a h fun z hz => fr z (a5 z (hi z hz))) a1
  have b2 := G2 (f' := Dq A4 E0.tp (H1 ++ [⟨cx ++ raw, true, true⟩]) 5) (fun t x a h hi => F2 5 t x a h fun z hz => fr z (by rw [hl1]; exact hRlt z (zaF _ (hi z hz)))) a2
  have b3 := a3.grow [⟨cx ++ raw, true, true⟩]
  have b4 := Ny b1 b2
  rw [← zb1, List.replicate_append_replicate] at b4
  refine ⟨(H1.length :: (Jx ++ Jy)) ++ Ry, ⟨H1.length :: (Jx ++ Jy), Ry, rfl, ⟨rfl, hok', ?_⟩, b3⟩, ?_⟩
  ·rw [It]
   have ha : I5 (H1 ++ [⟨cx ++ raw, true, true⟩]) H1.length = true := by simp only [I5, hg]
   have hrd : Bf (H1 ++ [⟨cx ++ raw, true, true⟩]) H1.length 0 ((k + m) * j.size) = some (cx ++ raw) := by
    have : (cx ++ raw).length = (k + m) * j.size := by rw [zag, a6, q4, Nat.add_mul]
    simp only [Bf, hg, if_true, za3, zaS, ← this, zam, zaJ]
   simp only [e1, e2, zad, if_true, ha, hrd, b4]
  ·rw [za0, zbh]
   have hn3 : (Jx ++ Jy ++ Ry).Nodup := by
    rw [zah]
    have : (Jx ++ (Jy ++ Ry) ++ X).Nodup := by simpa only [zah] using a4
    exact (zba.1 this).1
   refine ⟨fun hm => ?_, hn3⟩
   rcases zaR.1 hm with hm | hm
   ·rcases zaR.1 hm with hm | hm
    ·exact Nat.lt_irrefl _ (a5 _ hm)
    ·have := hRlt _ (zaF _ hm)
     omega
   ·have := hRlt _ (zaK _ hm)
    omega
 rcases Wk e1 e2 h1 with ⟨rfl, rfl, rfl, rfl⟩ | ⟨id, off, cx, J', b, rfl, rfl, hb1, hlv, hap, h4, h5⟩
 ·have hc : Ej H j.size .nl = some [] := rfl
  refine Eg (b := KH (.sl H.length 0 (0 + m) j.size) (H ++ [⟨[] ++ raw, true, true⟩])) ?_ (h _ _ rfl (fin H [] [] rfl (.inr trivial) (by simp [Em]) q5 q6 (by simpa using hn') (by simp) (by simp)) ⟨_, [], raw, rfl, by rw [zai (zam _), zaP]; rfl, q2, by simp⟩)
  have hl0 : I0 .nl = some 0 := rfl
  have hk0 : Qu H .nl = some H := rfl
  simp only [K6, hl0, zad, q1, q2, hc, hk0]
  rw [if_pos hb, if_pos q3]
  rfl
 ·have hc : Ej H j.size (.sl id off k j.size) = some cx := by
   show (if j.size = j.size then Bf H id off (k * j.size) else none) = _
   rw [if_pos rfl, h4]
  have hk : Qu H (.sl id off k j.size) = some (H.set id { b with live := false }) := by
   show (H[id]?).bind (fun b => if b.app then some (H.set id { b with live := false }) else none) = _
   rw [hb1, zad, if_pos hap]
  have hn2 : (id :: (J' ++ (Jy ++ (Ry ++ X)))).Nodup := hn'
  have hnid := (zbh.1 hn2).1
  have hset : ∀ z, z ≠ id → (H.set id { b with live := false })[z]? = H[z]? := fun z hz => zb9 (fun e => hz e.symm)
  have c1 := G2 (f' := Dq A4 E0.tp (H.set id { b with live := false }) 5) (fun t x a h hi => F2 5 t x a h fun z hz => hset z (fun e => hnid (e ▸ zaF _ (hi z hz)))) h5
  have c2 := G2 (f' := Dq A4 E0.tp (H.set id { b with live := false }) 5) (fun t x a h hi => F2 5 t x a h fun z hz => hset z (fun e => hnid (e ▸ zaK _ (zaF _ (hi z hz))))) q5
  have c3 := q6.frame (H' := H.set id { b with live := false }) fun z hz => hset z (fun e => hnid (e ▸ zaK _ (zaK _ (zaF _ hz))))
  have hJlt : ∀ z ∈ J', z < H.length := fun z hz => N0 6 ty _ _ h1 z (zay _ hz)
  refine Eg (b := KH (.sl (H.set id { b with live := false }).length 0 (k + m) j.size) (H.set id { b with live := false } ++ [⟨cx ++ raw, true, true⟩])) ?_ (h _ _ rfl (fin _ cx J' (by simp) (.inr trivial) c1 c2 c3 (zbh.1 hn2).2 (fun z hz => by rw [List.length_set]; exact hJlt z hz) (Jm h4).1) ⟨_, cx, raw, rfl, by rw [zai (zam _), zaP]; rfl, q2, (Jm h4).1⟩)
  have hl0 : I0 (.sl id off k j.size) = some k := rfl
  simp only [K6, hl0, zad, q1, q2, hc, hk]
  rw [if_pos hb, if_pos q3]
  rfl
theorem Xr {sz bytes k m ty : Nat} {cty : List Nat} {x y : AV} {ca cb : List AV} (hs : Sep H L) (hty : ∃ i j, A4 ty = some i ∧ A4 i.elem = some j ∧ j.size = sz ∧ j.cty = cty) (hx : Pk L (.own x ty (.ro k ca)) L1) (hy : Src H L1 sz cty y m cb L2) (hok : Hg (Iq A4 E0.tp 5) (zaj m cty).flatten cb) (hb : (k + m) * bytes ≤ 140737488355328)
  (h : ∀ x' H', Bn x' = true → Sep H' (.own x' ty (.ro (k + m) (ca ++ cb)) :: L2) → Gd G (KH x' H')) : Gd G (K6 sz bytes x y H fun x H => KH x H) := AhN hs hty hx hy hok hb fun x' H' h1 h2 _ => h x' H' h1 h2
theorem C7 {G : Option AV → Prop} {o : Option AV} (h : Gd G o) : G o := h
theorem Cq {ty : Nat} {tys : List Nat} {raw cells : List AV} (hs : Sep H L) (hts : E0.tp ty = some tys) (hr : OwnR L raw tys cells L') (hok : Hg (Iq A4 E0.tp 7) tys cells) : Bm A4 E0.tp ty H (.tup raw) = some (.tup cells) := by
 obtain ⟨I, h1, h2⟩ := hs
 obtain ⟨J, R, g1, g2, g3⟩ := hr.sound h1 7 hok
 have hn := (zba.1 (g3.nodup_iff.1 h2)).1
 rw [Bm, Jp, hts, zad, g1, zad, zad, if_pos hn]
theorem Ch {ty : Nat} {cty : List Nat} {raw cells : List AV} (hs : Sep H L) (hty : ∃ i, A4 ty = some i ∧ i.cty = cty) (hr : OwnR L raw cty cells L') (hok : Hg (Iq A4 E0.tp 7) cty cells) : Bm A4 E0.tp ty H (.agg raw) = some (.agg cells) := by
 obtain ⟨i, e1, rfl⟩ := hty
 obtain ⟨I, h1, h2⟩ := hs
 obtain ⟨J, R, g1, g2, g3⟩ := hr.sound h1 7 hok
 have hn := (zba.1 (g3.nodup_iff.1 h2)).1
 rw [Bm, Is, e1, zad, g1, zad, zad, if_pos hn]
theorem Ds {ty : Nat} {x t : AV} (hs : Sep H L) (hp : Pk L (.own x ty t) L') : Bm A4 E0.tp ty H x = some t := by
 obtain ⟨_, h1, I, h2, h3⟩ := hs.own hp
 rw [Bm, Jl 6 8 ty x t I h2 (Cg h1 (by decide)), zad, if_pos h3]
theorem Ah {G : Option AV → Prop} {ty : Nat} {x t : AV} (e : Bm A4 E0.tp ty H x = some t) (h : G (some t)) : Gd G (Bm A4 E0.tp ty H x) := by
 rw [e]
 exact h
end
theorem H5 {L : List Ck} {d : Nat} {a0 a1 : Value} {xs ts : List AV} (h : VwL L (d + 1) xs ts) : VwL L (d + 1) (.sc a0 :: .sc a1 :: xs) (.sc a0 :: .sc a1 :: ts) := (.cons .sc (.cons .sc h))
theorem Lu {L : List Ck} {d : Nat} {a0 a1 a2 : Value} {xs ts : List AV} (h : VwL L (d + 1) xs ts) : VwL L (d + 1) (.sc a0 :: .sc a1 :: .sc a2 :: xs) (.sc a0 :: .sc a1 :: .sc a2 :: ts) := (.cons .sc (.cons .sc (.cons .sc h)))
theorem K7 {L : List Ck} {d : Nat} {a0 a1 a2 a3 a4 : Value} {xs ts : List AV} (h : VwL L (d + 1) xs ts) : VwL L (d + 1) (.sc a0 :: .sc a1 :: .sc a2 :: .sc a3 :: .sc a4 :: xs) (.sc a0 :: .sc a1 :: .sc a2 :: .sc a3 :: .sc a4 :: ts) := (.cons .sc (.cons .sc (.cons .sc (.cons .sc (.cons .sc h)))))
theorem Ge {L : List Ck} {d : Nat} {a0 a1 a2 a3 a4 a5 : Value} {xs ts : List AV} (h : VwL L (d + 1) xs ts) : VwL L (d + 1) (.sc a0 :: .sc a1 :: .sc a2 :: .sc a3 :: .sc a4 :: .sc a5 :: xs) (.sc a0 :: .sc a1 :: .sc a2 :: .sc a3 :: .sc a4 :: .sc a5 :: ts) := (.cons .sc (.cons .sc (.cons .sc (.cons .sc (.cons .sc (.cons .sc h))))))
theorem Ui {L L' : List Ck} {a0 a1 a2 : Value} {t0 t1 t2 : Nat} {xs cs : List AV} {ts : List Nat} (h : OwnR L xs ts cs L') : OwnR L (.sc a0 :: .sc a1 :: .sc a2 :: xs) (t0 :: t1 :: t2 :: ts) (.sc a0 :: .sc a1 :: .sc a2 :: cs) L' := (.sc (.sc (.sc h)))
theorem G8 {L L' : List Ck} {a0 a1 a2 a3 a4 : Value} {t0 t1 t2 t3 t4 : Nat} {xs cs : List AV} {ts : List Nat} (h : OwnR L xs ts cs L') : OwnR L (.sc a0 :: .sc a1 :: .sc a2 :: .sc a3 :: .sc a4 :: xs) (t0 :: t1 :: t2 :: t3 :: t4 :: ts) (.sc a0 :: .sc a1 :: .sc a2 :: .sc a3 :: .sc a4 :: cs) L' := (.sc (.sc (.sc (.sc (.sc h)))))
theorem Eb {L L' : List Ck} {a0 a1 a2 a3 a4 a5 : Value} {t0 t1 t2 t3 t4 t5 : Nat} {xs cs : List AV} {ts : List Nat} (h : OwnR L xs ts cs L') : OwnR L (.sc a0 :: .sc a1 :: .sc a2 :: .sc a3 :: .sc a4 :: .sc a5 :: xs) (t0 :: t1 :: t2 :: t3 :: t4 :: t5 :: ts) (.sc a0 :: .sc a1 :: .sc a2 :: .sc a3 :: .sc a4 :: .sc a5 :: cs) L' := (.sc (.sc (.sc (.sc (.sc (.sc h))))))
theorem Fi {P : Prop} (h : P) : True ∧ True ∧ P := ⟨trivial, trivial, h⟩
theorem Uj {P : Prop} (h : P) : True ∧ True ∧ True ∧ P := ⟨trivial, trivial, trivial, h⟩
theorem Ha {P : Prop} (h : P) : True ∧ True ∧ True ∧ True ∧ True ∧ P := ⟨trivial, trivial, trivial, trivial, trivial, h⟩
theorem Ec {P : Prop} (h : P) : True ∧ True ∧ True ∧ True ∧ True ∧ True ∧ P := ⟨trivial, trivial, trivial, trivial, trivial, trivial, h⟩
theorem Wx {j o : Nat} {ds : List AV} {b : Bool} {L1 L2 : List Ck} (h : Pk L1 (.blk j ds b) L2) : ∀ y ∈ [AV.ptr j o], ∃ j' o' ds' b', y = .ptr j' o' ∧ ∃ L2, Pk L1 (.blk j' ds' b') L2 := fun y hy => by
 cases zbk.1 hy
 exact ⟨_, _, _, _, rfl, _, h⟩
theorem A8 {β : Type} {G : Option β → Prop} {H : Ae} {L L1 : List Ck} {i o : Nat} {cs : List AV} {a : Bool} {y : AV} {KS : Ae → Option β} (hs : Sep H L) (hp : Pk L (.blk i cs a) L1) (hy : Bn y = true) (hl : Nat.ble (o + 1) cs.length = true) (h : ∀ H', Sep H' (.blk i (cs.set o y) a :: L1) → Gd G (KS H')) : Gd G (Gb 1 (.ptr i o) y H fun H => KS H) := Cm hs hp (Ef hy) rfl (Cr hl) (by
 unfold F6
 have := Cr hl
 rw [List.set_eq_take_append_cons_drop, if_pos (by omega)]
 simp) h
end
section
open Go
variable {β : Type}
theorem K5 {d ty : Nat} {cty : List Nat} {cs : List AV} (hty : ∃ i, A4 ty = some i ∧ i.cty = cty) (h : Hg (Iq A4 E0.tp d) cty cs) : Iq A4 E0.tp (d + 1) ty (.agg cs) := by
 obtain ⟨i, hi, rfl⟩ := hty
 exact ⟨i, hi, h⟩
theorem An {d ty : Nat} (h : ∃ i j, A4 ty = some i ∧ A4 i.elem = some j) : Iq A4 E0.tp (d + 1) ty (.ro 0 []) := by
 obtain ⟨i, j, h1, h2⟩ := h
 exact ⟨i, j, h1, h2, by simp, by simp [Hg]⟩
theorem Gd.both {G : Option β → Prop} {a b : Option β} (h1 : Gd G a) (h2 : a = b) : Gd G (Ox a b) := by
 rw [Yb rfl h2.symm]
 exact h1
theorem Df (s : ByteArray) : Iq A4 E0.tp 6 22 (Ai s) := Vc (d := 4) Wv s
theorem Wf (l : List Int) : Iq A4 E0.tp 6 57 (E1 l) := Tk (d := 4) (fun z : Int => .int .i64 z) Air l
theorem Tj (l : List ByteArray) : Iq A4 E0.tp 6 56 (E3 l) := Tk (d := 4) (fun z : ByteArray => .string z) Aco l
theorem Kf (l : List WantV) : Iq A4 E0.tp 6 55 (Dk Cj l) := AdY (d := 5) G1 ⟨_, _, rfl, rfl, rfl, rfl⟩ (AfU 4) l
theorem InsL.mono {ts : List Nat} {cs : List AV} {Φ Ψ : List AV → List Ck → Prop} (h : InsL ts cs Φ) (m : ∀ xs Lx, Φ xs Lx → Ψ xs Lx) : InsL ts cs Ψ := fun H L hs => by
 obtain ⟨xs, Lx, a, b, c⟩ := h H L hs
 exact ⟨xs, Lx, a, b, m _ _ c⟩
theorem Jc (p : PacketV) : InsL Abb (A0 p) fun xs Lx => ∃ x6 x13 x19 x22 x23 x24 : AV, Bn x6 = true ∧ Bn x13 = true ∧ Bn x19 = true ∧ Bn x22 = true ∧ Bn x23 = true ∧ Bn x24 = true ∧ xs = [.sc (.int .i64 p.fType), .sc (.bool p.fDup), .sc (.int .i64 p.fQos), .sc (.bool p.fRetain), .sc (.int .i64 p.fId), .sc (.string p.fTopic), x6, .sc (.string p.fClient), .sc (.int .i64 p.fLevel), .sc (.bool p.fClean), .sc (.int .i64 p.fKeep), .sc (.bool p.fHasWill), .sc (.string p.fWTopic), x13, .sc (.int .i64 p.fWQos), .sc (.bool p.fWRetain), .sc (.bool p.fHasUser), .sc (.string p.fUser), .sc (.bool p.fHasPass), x19, .sc (.int .i64 p.fCode), .sc (.bool p.fPresent), x22, x23, x24] ∧ Lx = [.own x24 57 (E1 p.fCodes), .own x23 56 (E3 p.fNames), .own x22 55 (Dk Cj p.fWants), .own x19 22 (Ai p.fPass), .own x13 22 (Ai p.fWBody), .own x6 22 (Ai p.fBody)] :=
 InsL.mono (Bk (Bk (Bk (Bk (Bk (Bk (Jd (ty := 22) rfl (Df p.fBody) (Bk (Bk (Bk (Bk (Bk (Bk (Jd (ty := 22) rfl (Df p.fWBody) (Bk (Bk (Bk (Bk (Bk (Jd (ty := 22) rfl (Df p.fPass) (Bk (Bk (Jd (ty := 55) rfl (Kf p.fWants) (Jd (ty := 56) rfl (Tj p.fNames) (Jd (ty := 57) rfl (Wf p.fCodes) Eh))))))))))))))))))))))))) (by
  rintro _ _ ⟨_, rfl, ⟨_, rfl, ⟨_, rfl, ⟨_, rfl, ⟨_, rfl, ⟨_, rfl, ⟨x6, _, _, l6, rfl, rfl, ⟨_, rfl, ⟨_, rfl, ⟨_, rfl, ⟨_, rfl, ⟨_, rfl, ⟨_, rfl, ⟨x13, _, _, l13, rfl, rfl, ⟨_, rfl, ⟨_, rfl, ⟨_, rfl, ⟨_, rfl, ⟨_, rfl, ⟨x19, _, _, l19, rfl, rfl, ⟨_, rfl, ⟨_, rfl, ⟨x22, _, _, l22, rfl, rfl, ⟨x23, _, _, l23, rfl, rfl, ⟨x24, _, _, l24, rfl, rfl, ⟨rfl, rfl⟩⟩⟩⟩⟩⟩⟩⟩⟩⟩⟩⟩⟩⟩⟩⟩⟩⟩⟩⟩⟩⟩⟩⟩⟩⟩
  exact ⟨x6, x13, x19, x22, x23, x24, l6, l13, l19, l22, l23, l24, rfl, rfl⟩)
end
section
open Go
inductive Sel : List Ck → List Ck → Prop
 | nil {L : List Ck} : Sel L []
 | cons {L L1 L' : List Ck} {c : Ck} : Pk L c L1 → Sel L1 L' → Sel L (c :: L')
 | rest {L : List Ck} : Sel L L
 | skip {L L' : List Ck} {c : Ck} : Sel L L' → Sel (c :: L) L'
theorem zS2 {a0 a1 : Ck} {L : List Ck} : Sel (a0 :: a1 :: L) L := .skip (.skip (.rest))
section
variable {β : Type} {n : Nat} {H : Ae} {L L' L1 L2 : List Ck} {G : Option β → Prop} {K : AV → Option β} {KH : KO β}
theorem Sep.none (h : Sep H L) : Sep H [] := by
 induction L with
 | nil => exact h
 | cons c L ih => exact ih h.tail
theorem Sel.sepI : ∀ {L L' : List Ck} {I : List Nat}, Sel L L' → SepI H L I → ∃ J X, SepI H L' J ∧ I.Perm (J ++ X)
 | _, _, I, .nil, h => ⟨[], I, rfl, zb7.refl _⟩
 | _, _, I, .rest, h => ⟨I, [], h, by simp⟩
 | _, _, I, .skip q, h => by
  obtain ⟨J, R, rfl, g1, g2⟩ := h
  obtain ⟨J', X, e1, e2⟩ := q.sepI g2
  refine ⟨J', J ++ X, e1, ?_⟩
  refine (zb7.append_left J e2).trans ?_
  rw [← zah, ← zah]
  exact zb7.append_right X List.perm_append_comm
 | _, _, I, .cons p q, h => by
  obtain ⟨J, R, g1, g2, g3⟩ := p.sepI h
  obtain ⟨J', X, e1, e2⟩ := q.sepI g2
  refine ⟨J ++ J', X, ⟨J, J', rfl, g1, e1⟩, ?_⟩
  rw [zah]
  exact g3.trans (zb7.append_left J e2)
theorem Sep.sel (h : Sep H L) (q : Sel L L') : Sep H L' := by
 obtain ⟨I, h1, h2⟩ := h
 obtain ⟨J, X, g1, g2⟩ := q.sepI h1
 exact ⟨J, g1, (zba.1 (g2.nodup_iff.1 h2)).1⟩
theorem F7 {x off : Nat} {ts : List AV} {cs : List AV} {a : Bool} {m : Option β} (hs : Sep H L) (hp : Pk L (.blk x cs a) L1) (ht : ∀ y ∈ ts, ∃ j o ds b, y = .ptr j o ∧ ∃ L2, Pk L1 (.blk j ds b) L2) (h : Gd G m) : Gd G (Q0 (.ptr x off) ts H m) := by
 have e : Si (.ptr x off) ts H = true := by
  have hb := hs.blk hp
  simp only [Si, hb, za1, za8]
  intro y hy
  obtain ⟨j, o, ds, b, rfl, L2, hq⟩ := ht y hy
  obtain ⟨I, ⟨J, R, rfl, ⟨rfl, h1⟩, h2⟩, h3⟩ := hs.pick hp
  obtain ⟨J', R', ⟨rfl, g1⟩, g2, g3⟩ := hq.sepI h2
  have hne : x ≠ j := by
   rintro rfl
   have hn := (zbh.1 h3).1
   exact hn (g3.symm.mem_iff.1 (by simp))
  simp [g1, hne]
 unfold Q0
 rw [if_pos e]
 exact h
theorem Gd.bothE {r a b : Option β} (h1 : Gd (· = r) a) (h2 : Gd (· = r) b) : Gd (· = r) (Ox a b) := Yb h1 h2
theorem He {x o o' : Nat} {m : Option β} (h : Gd G m) : Gd G (Rs (.ptr x o) (.ptr x o') m) := by
 simp only [Rs, if_true]
 exact h
theorem Lm {α : Type} {w : Nat} {enc : α → List AV} {l pre t : List α} {x : α} {i : Int} (hi : i = (pre.length : Nat)) (hw : ∀ x, (enc x).length = w) (h0 : 0 < w) (hl : l = pre ++ x :: t) (h : Gd G (K (.rp (enc x ++ (t.map enc).flatten)))) : Gd G (Fv w (Dk enc l) (.sc (.int .i64 i)) fun t => K t) := by
 subst hl
 subst hi
 exact Eg (Ac2 hw h0 pre x t _) h
theorem Jf {l pre t : List Int} {x i : Int} (hi : i = (pre.length : Nat)) (hl : l = pre ++ x :: t) (h : Gd G (K (.rp (Sv x ++ (t.map Sv).flatten)))) : Gd G (Fv 1 (E1 l) (.sc (.int .i64 i)) fun t => K t) := by
 rw [Km]
 exact Lm hi (fun _ => rfl) (by decide) hl h
theorem Md {l pre t : List ByteArray} {x : ByteArray} {i : Int} (hi : i = (pre.length : Nat)) (hl : l = pre ++ x :: t) (h : Gd G (K (.rp (Sw x ++ (t.map Sw).flatten)))) : Gd G (Fv 1 (E3 l) (.sc (.int .i64 i)) fun t => K t) := by
 rw [Kp]
 exact Lm hi (fun _ => rfl) (by decide) hl h
def A7 (s : ByteArray) (i : Int) : Int := ((s.data.toList.getD i.toNat 0).toNat : Nat)
theorem Ed (s : ByteArray) (i : Int) : 0 ≤ A7 s i ∧ A7 s i < 256 := by
 have := (s.data.toList.getD i.toNat 0).toNat_lt
 unfold A7
 omega
theorem Gk {s : ByteArray} {i : Int} (h0 : 0 ≤ i) (h1 : i < (s.size : Nat)) (h : ∀ rest, Gd G (K (.rp (.sc (.int .u8 (A7 s i)) :: rest)))) : Gd G (Fv 1 (Ai s) (.sc (.int .i64 i)) fun t => K t) := by
 have hlt : i.toNat < s.size := by omega
 have e : (Bp s).drop (i.toNat * 1) = .sc (.int .u8 (A7 s i)) :: (Bp s).drop (i.toNat + 1) := by
  rw [zbt, zaA (by rw [Fb]; omega)]
  congr 1
  simp [Bp, A7, zbq, hlt]
 have e2 : (.sc (.int .i64 i) : AV) = .sc (.int .i64 (i.toNat : Nat)) := by
  rw [Int.toNat_of_nonneg h0]
 rw [e2]
 refine Eg (Of 1 s.size (Bp s) i.toNat _ hlt (by rw [Fb]; omega)) ?_
 rw [e]
 exact h _
theorem Aej {α : Type} {enc : α → List AV} (l q : List α) : Dk enc (l ++ q) = .ro (l.length + q.length) ((l.map enc).flatten ++ (q.map enc).flatten) := by
 show AV.ro _ _ = _
 rw [zag, za2, zb1]
theorem V8 {α : Type} {enc : α → List AV} {sz bytes ty : Nat} {cty : List Nat} {x : AV} {l : List α} {i : Nat} {raw cb : List AV} {a : Bool} {e : α} {L3 : List Ck} (hs : Sep H L) (hty : ∃ i j, A4 ty = some i ∧ A4 i.elem = some j ∧ j.size = sz ∧ j.cty = cty) (hx : Pk L (.own x ty (Dk enc l)) L1) (hp : Pk L1 (.blk i raw a) L2) (hl : raw.length = sz) (hf : raw.all Bn = true) (hr : OwnR L2 raw cty cb L3) (hok : Hg (Iq A4 E0.tp 5) cty cb) (he : cb = enc e) (hb : (l.length + 1) * bytes ≤ 140737488355328)
  (h : ∀ x' H', Bn x' = true → Sep H' (.own x' ty (Dk enc (l ++ [e])) :: L3) → Gd G (KH x' H')) : Gd G (K6 sz bytes x (.sl i 0 1 sz) H fun x H => KH x H) := by
 have e1 : (zaj 1 cty).flatten = cty := by simp
 refine Xr hs hty hx (Wr hp (by omega) hf (by rw [e1]; exact hr) (by rw [e1]; exact hok)) (by rw [e1]; exact hok) hb fun x' H' lx hs' => h x' H' lx ?_
 rw [Aej]
 simpa [he] using hs'
theorem Aa9 {ty : Nat} {cty : List Nat} {x : AV} {l : List Int} {i : Nat} {z : Int} {a : Bool} (hs : Sep H L) (hx : Pk L (.own x ty (E1 l)) L1) (hp : Pk L1 (.blk i [.sc (.int .i64 z)] a) L2) (hty : ∃ i j, A4 ty = some i ∧ A4 i.elem = some j ∧ j.size = 1 ∧ j.cty = cty) (hc : cty.length = 1) (hb : (l.length + 1) * 8 ≤ 140737488355328)
  (h : ∀ x' H', Bn x' = true → Sep H' (.own x' ty (E1 (l ++ [z])) :: L2) → Gd G (KH x' H')) : Gd G (K6 1 8 x (.sl i 0 1 1) H fun x H => KH x H) := by
 obtain ⟨c, rfl⟩ := zbp.1 hc
 rw [Km] at hx h
 exact V8 hs hty hx hp rfl rfl (.sc .nil) ⟨trivial, trivial⟩ rfl hb h
theorem V9 {ty : Nat} {cty : List Nat} {x : AV} {l : List ByteArray} {i : Nat} {z : ByteArray} {a : Bool} (hs : Sep H L) (hx : Pk L (.own x ty (E3 l)) L1) (hp : Pk L1 (.blk i [.sc (.string z)] a) L2) (hty : ∃ i j, A4 ty = some i ∧ A4 i.elem = some j ∧ j.size = 1 ∧ j.cty = cty) (hc : cty.length = 1) (hb : (l.length + 1) * 16 ≤ 140737488355328)
  (h : ∀ x' H', Bn x' = true → Sep H' (.own x' ty (E3 (l ++ [z])) :: L2) → Gd G (KH x' H')) : Gd G (K6 1 16 x (.sl i 0 1 1) H fun x H => KH x H) := by
 obtain ⟨c, rfl⟩ := zbp.1 hc
 rw [Kp] at hx h
 exact V8 hs hty hx hp rfl rfl (.sc .nil) ⟨trivial, trivial⟩ rfl hb h
theorem AhM {sz bytes m ty : Nat} {cty : List Nat} {y : AV} {cb : List AV} (hs : Sep H L) (hty : ∃ i j, A4 ty = some i ∧ A4 i.elem = some j ∧ j.size = sz ∧ j.cty = cty) (hy : Src H L sz cty y m cb L2) (hok : Hg (Iq A4 E0.tp 5) (zaj m cty).flatten cb) (hb : m * bytes ≤ 140737488355328)
  (h : ∀ x' H', Bn x' = true → Sep H' (.own x' ty (.ro m cb) :: L2) → Gd G (KH x' H')) : Gd G (K6 sz bytes .nl y H fun x H => KH x H) := by
 obtain ⟨i, j, e1, e2, e3, e4⟩ := hty
 refine Xr (hs.nl (ty := ty) ⟨i, j, e1, e2⟩) ⟨i, j, e1, e2, e3, e4⟩ .here hy hok (by rw [za3]; exact hb) fun x' H' lx hs' => h x' H' lx ?_
 rw [za3, zak] at hs'
 exact hs'
theorem P7 {d : Nat} : ∀ {ts : List Nat} {l : List AV}, ts.length = l.length → l.all Nd = true → Hg (Iq A4 E0.tp (d + 1)) ts l
 | [], [], _, _ => trivial
 | t :: ts, x :: l, h, hl => by
  rw [zap, zaf] at hl
  refine ⟨?_, P7 (by simpa using h) hl.2⟩
  cases x with
  | sc v => trivial
  | _ => simp [Nd] at hl
 | [], _ :: _, h, _ => by simp at h
 | _ :: _, [], h, _ => by simp at h
theorem Jq (s : ByteArray) : (Bp s).all Nd = true := by
 simp only [Bp, List.all_map, za8]
 intro b _
 rfl
theorem AaE {cty : List Nat} {w m : Nat} (h : cty.length = w) : ((zaj m cty).flatten).length = m * w := by simp [h]
theorem Ip {s : ByteArray} (hs : Sep H L) (hb : s.size ≤ 140737488355328) (h : ∀ x' H', Bn x' = true → Sep H' (.own x' 22 (Ai s) :: L) → Gd G (KH x' H')) : Gd G (K6 1 1 .nl (Ai s) H fun x H => KH x H) :=
 AhM hs ⟨_, _, rfl, rfl, rfl, rfl⟩ (Aeq rfl (by rw [Fb]; omega) (Jq s)) (P7 (by rw [AaE (w := 1) rfl, Fb, zbt]) (Jq s)) (by omega) h
end
end
section
open Go
section
variable {β : Type} {n : Nat} {H : Ae} {L L' L1 L2 : List Ck} {G : Option β → Prop} {K : AV → Option β} {KH : KO β}
theorem Tp {d : Nat} : ∀ {ts : List Nat} {xs cells : List AV} {I : List Nat}, Em (Dq A4 E0.tp H d) ts xs = some (cells, I) → cells.all Nd = true → xs = cells ∧ I = []
 | ts, [], cells, I, h, _ => by
  obtain ⟨_, e⟩ := Ir h
  cases e
  exact ⟨rfl, rfl⟩
 | [], _ :: _, _, _, h, _ => by simp [Em] at h
 | t :: ts, x :: xs, cells, I, h, hs => by
  obtain ⟨a, b, h1, h2, e⟩ := Ht h
  cases e
  rw [zap, zaf] at hs
  obtain ⟨rfl, e2⟩ := Tp h2 hs.2
  have hx : x = a.1 ∧ a.2 = [] := by
   obtain ⟨a1, a2⟩ := a
   cases a1 with
   | sc v =>
    have := Wl h1
    subst this
    cases d with
    | zero => simp [Dq] at h1
    | succ d =>
     have : (AV.sc v, ([] : List Nat)) = (.sc v, a2) := Option.some.inj h1
     cases this
     exact ⟨rfl, rfl⟩
   | _ => simp [Nd] at hs
  refine ⟨by rw [hx.1], by rw [hx.2, e2]; rfl⟩
theorem Rq {d : Nat} : ∀ {ts : List Nat} {l : List AV}, ts.length = l.length → l.all Nd = true → Em (Dq A4 E0.tp H (d + 1)) ts l = some (l, [])
 | [], [], _, _ => rfl
 | t :: ts, x :: l, h, hl => by
  rw [zap, zaf] at hl
  cases x with
  | sc v =>
   rw [Em, Wj, zad, Rq (by simpa using h) hl.2]
   rfl
  | _ => simp [Nd] at hl
 | [], _ :: _, h, _ => by simp at h
 | _ :: _, [], h, _ => by simp at h
theorem Sep.closeR {sz m ty id : Nat} {pre cells post : List AV} (hty : ∃ i j, A4 ty = some i ∧ A4 i.elem = some j ∧ j.size = sz ∧ j.cty.length = sz) (hs : Sep H (.blk id (pre ++ (cells ++ post)) true :: L)) (hf : cells.all Nd = true) (hl : cells.length = m * sz) : Sep H (.own (.sl id pre.length m sz) ty (.ro m cells) :: L) := by
 obtain ⟨i, j, e1, e2, rfl, e4⟩ := hty
 obtain ⟨I, ⟨J, R, rfl, ⟨rfl, h1⟩, h2⟩, h3⟩ := hs
 have hlen : ((zaj m j.cty).flatten).length = cells.length := by simp [e4, hl]
 refine ⟨[id] ++ R, ⟨[id], R, rfl, ⟨rfl, ⟨i, j, e1, e2, hl, P7 hlen hf⟩, ?_⟩, h2⟩, h3⟩
 rw [It]
 have ha : I5 H id = true := by simp only [I5, h1]
 have hrd : Bf H id pre.length (m * j.size) = some cells := by
  simp only [Bf, h1, if_true]
  rw [if_pos (by simp only [zag]; omega), List.drop_left', ← hl, List.take_left']
  rfl
  rfl
 simp only [e1, e2, zad, if_true, ha, hrd, Rq (d := 4) hlen hf]
theorem Af9 {w m o d : Nat} {z : Int} {K : AV → Option β} (h0 : 0 ≤ z) (h1 : z < m) (hk : Gd G (K (.ptr d (o + z.toNat * w)))) : Gd G (Fv w (.sl d o m w) (.sc (.int .i64 z)) fun t => K t) := by
 have e := AaA w m d o z.toNat (fun t => K t) (by omega)
 rw [show ((z.toNat : Nat) : Int) = z by omega] at e
 exact Eg e hk
end
end
section
open Go
section
variable {β : Type} {n : Nat} {H : Ae} {L L' L1 L2 : List Ck} {G : Option β → Prop} {K : AV → Option β} {KH : KO β}
theorem Vf {d : Nat} : ∀ {ts : List Nat} {xs cells : List AV} {I : List Nat} {k : Nat} {v : Value}, Em (Dq A4 E0.tp H d) ts xs = some (cells, I) → cells[k]? = some (.sc v) → xs[k]? = some (.sc v)
 | ts, [], cells, I, k, v, h, hk => by
  obtain ⟨_, e⟩ := Ir h
  cases e
  simp at hk
 | [], _ :: _, _, _, _, _, h, _ => by simp [Em] at h
 | t :: ts, x :: xs, cells, I, k, v, h, hk => by
  obtain ⟨a, b, h1, h2, e⟩ := Ht h
  cases e
  cases k with
  | zero =>
   obtain ⟨a1, a2⟩ := a
   have : a1 = .sc v := by simpa using hk
   subst this
   rw [Wl h1]
   rfl
  | succ k => simpa using Vf h2 (by simpa using hk)
theorem Af8 {sz m ty : Nat} {x : AV} {cells : List AV} {i : Int} (hs : Sep H L) (hty : ∃ i j, A4 ty = some i ∧ A4 i.elem = some j ∧ j.size = sz) (hp : Pk L (.own x ty (.ro m cells)) L1) (h0 : 0 ≤ i) (h1 : i < (m : Nat))
  (h : ∀ id off, (∀ k v, k < sz → cells[i.toNat * sz + k]? = some (.sc v) → Bf H id (off + k) 1 = some [.sc v]) → Gd G (K (.ptr id off))) : Gd G (Fv sz x (si i) fun t => K t) := by
 obtain ⟨ti, tj, e1, e2, rfl⟩ := hty
 obtain ⟨_, _, I, e, _⟩ := hs.own hp
 rcases Wk e1 e2 e with ⟨rfl, rfl, rfl, rfl⟩ | ⟨id, off, raw, J', b, rfl, rfl, hb, hlv, ha, h4, h5⟩
 exact absurd h1 (by simp; omega)
 refine Af9 h0 h1 (h _ _ fun k v hk hc => ?_)
 obtain ⟨hl, b', hb', _, hle, hcs⟩ := Jm h4
 rw [hb] at hb'
 cases hb'
 have hr := Vf h5 hc
 have hlt := (zae.1 hr).1
 rw [hl] at hlt
 have hg : b.cells[off + i.toNat * tj.size + k]? = some (.sc v) := by
  rw [hcs, zbw hlt, zbb] at hr
  rw [← hr]
  congr 1
  omega
 obtain ⟨hlt2, he⟩ := zae.1 hg
 simp only [Bf, hb, hlv, if_true]
 rw [if_pos (by omega), zaA hlt2, he]
 rfl
theorem AiW {id o : Nat} {c : AV} (e : Bf H id o 1 = some [c]) (h : Gd G (K c)) : Gd G (D1 false 1 (.ptr id o) H fun x => K x) := Eg (ldF e _) h
end
end
section
open Go
section
variable {β : Type} {n : Nat} {H : Ae} {L L' L1 L2 : List Ck} {G : Option β → Prop} {K : AV → Option β} {KH : KO β}
theorem Agg {id o w k v : Nat} {cs : List AV} (e : Bf H id o w = some cs) (hk : k + v ≤ w) : Bf H id (o + k) v = some ((cs.drop k).take v) := by
 obtain ⟨hl, b, hb, hlv, hle, hcs⟩ := Jm e
 simp only [Bf, hb, hlv, if_true]
 rw [if_pos (by omega), hcs, List.drop_take, List.take_take, zbA, Nat.min_eq_left (by omega)]
theorem Pb {id o k : Nat} {c : AV} {w : Nat} {cs : List AV} (e : Bf H id o w = some cs) (hk : k < w) (hc : cs[k]? = some c) (h : Gd G (K c)) : Gd G (D1 false 1 (.ptr id (o + k)) H fun x => K x) := by
 have e2 := Agg (k := k) (v := 1) e (by omega)
 obtain ⟨hlt, he⟩ := zae.1 hc
 rw [zaA hlt, he] at e2
 exact AiW e2 h
def Bb (s : ByteArray) (b : Int) : ByteArray := s.push (UInt8.ofNat b.toNat)
theorem Al (s : ByteArray) (b : Int) : (Bb s b).size = s.size + 1 := by
 unfold Bb
 exact ByteArray.size_push
theorem Hm (s : ByteArray) (b : Int) (h0 : 0 ≤ b) (h1 : b < 256) : Ai (Bb s b) = .ro (s.size + 1) (Bp s ++ [.sc (.int .u8 b)]) := by
 show AV.ro (Bb s b).size (Bp (Bb s b)) = _
 rw [Al]
 congr 1
 have e : ((UInt8.ofNat b.toNat).toNat : Int) = b := by
  rw [UInt8.toNat_ofNat']
  omega
 unfold Bp Bb
 rw [zbC, Array.toList_push, za2, zaq, zaD, e]
theorem Fa {ty : Nat} {cty : List Nat} {x : AV} {s : ByteArray} {i : Nat} {z : Int} {a : Bool} (hs : Sep H L) (hx : Pk L (.own x ty (Ai s)) L1) (hp : Pk L1 (.blk i [.sc (.int .u8 z)] a) L2) (hty : ∃ i j, A4 ty = some i ∧ A4 i.elem = some j ∧ j.size = 1 ∧ j.cty = cty) (hc : cty.length = 1) (hb : 0 ≤ z ∧ z < 256 ∧ s.size + 1 ≤ 140737488355328)
  (h : ∀ x' H', Bn x' = true → Sep H' (.own x' ty (Ai (Bb s z)) :: L2) → Gd G (KH x' H')) : Gd G (K6 1 1 x (.sl i 0 1 1) H fun x H => KH x H) := by
 obtain ⟨c, rfl⟩ := zbp.1 hc
 have e1 : (zaj 1 [c]).flatten = [c] := by simp
 rw [Hm s z hb.1 hb.2.1] at h
 exact Xr (m := 1) (cb := [.sc (.int .u8 z)]) hs hty hx (Wr hp rfl rfl (by rw [e1]; exact .sc .nil) (by rw [e1]; exact ⟨trivial, trivial⟩)) (by rw [e1]; exact ⟨trivial, trivial⟩) (by omega) fun x' H' lx hs' => h x' H' lx hs'
theorem Fu {k k' : IntKind} {a z : Int} {K : AV → Option β} (hz : k.wrap a = z) (h : Gd G (K (.sc (.int k z)))) : Gd G (Z7 k (.sc (.int k' a)) fun t => K t) := by
 subst hz
 exact h
end
end
section
open Go
section
variable {β : Type} {n : Nat} {H : Ae} {L L1 : List Ck} {G : Option β → Prop} {K : AV → Option β} {KH : KO β}
theorem Mu {ty : Nat} {x : AV} {l : List ByteArray} {y : ByteArray} {i : Int} (hs : Sep H L) (hp : Pk L (.own x ty (E3 l)) L1) (hty : ∃ i j, A4 ty = some i ∧ A4 i.elem = some j ∧ j.size = 1) (h0 : 0 ≤ i) (hy : l[i.toNat]? = some y)
  (h : ∀ id off, Bf H id off 1 = some [ss y] → Gd G (K (.ptr id off))) : Gd G (Fv 1 x (si i) fun t => K t) := by
 have hlt := (zae.1 hy).1
 exact Af8 (m := l.length) (cells := l.map fun z => .sc (.string z)) hs hty hp h0 (by omega) fun id off hc => h id off (hc 0 _ (by omega) (by simp [hy]))
theorem Mt {ty f : Nat} {g : Nat → List AV → Option AV} {args vs : List AV} {v : Value} (hg : E0.ext f = some g) (hv : args.mapM (D5 H 8) = some vs) (ht : g ty vs = some (.sc v)) (h : Gd G (KH (.sc v) H)) : Gd G ((PR n β).call ty (.fn f [] []) args H fun x H => KH x H) := by
 refine Eg ?_ h
 rw [Yu hg hv ht, H6, zao]
theorem AfA {X : Option β} (e : Bool) {F : Bool → Option β} (h1 : ∀ b, b = e → Gd (· = F b) X) (h2 : ∀ b, b = e → Gd G (F b)) : Gd G X := by
 have h : X = F e := h1 e rfl
 rw [h]
 exact h2 e rfl
theorem AdC {X : Option β} : Gd (· = X) X := rfl
theorem AiY {c v b : Bool} {y : AV} (hc : c = true) (hv : v = b) (h : Gd G (K (.sc (.bool b)))) : Gd G (N2 (.sc (.bool c)) (.sc (.bool v)) y fun t => K t) := by
 subst hc
 subst hv
 exact B4 rfl h
theorem AiX {c v b : Bool} {x : AV} (hc : c = false) (hv : v = b) (h : Gd G (K (.sc (.bool b)))) : Gd G (N2 (.sc (.bool c)) x (.sc (.bool v)) fun t => K t) := by
 subst hc
 subst hv
 exact A6 rfl h
end
end
end Go.Proofs.YtlcpigdmekgajaaGreatDoor.Abs
set_option maxHeartbeats 1600000
namespace Go.Proofs.YtlcpigdmekgajaaGreatDoor.Abs
open _root_.Bool renaming false_eq_true → zaa, and_eq_true → zaf, not_true → zav, true_and → za1, eq_iff_iff → zb6
open _root_.Option renaming bind_eq_some_iff → zab, bind_some → zad, bind_eq_bind → zaM, getD_some → zaO, pure_def → zbc
open _root_.ByteArray renaming data_push → zbC
open _root_.List renaming getElem?_eq_some_iff → zae, length_append → zag, append_assoc → zah, getElem?_append_right → zai, replicate → zaj, nil_append → zak, getElem?_append_left → zal, length_singleton → zan, append_nil → zao, all_cons → zap, map_cons → zaq, length_cons → zar, length_nil → zat, mem_cons_of_mem → zay, mem_cons_self → zaz, cons_append → za0, map_append → za2, flatten_cons → za6, all_eq_true → za8, drop_eq_getElem_cons → zaA, map_nil → zaD, mem_append_left → zaF, mapM_cons → zaG, take_length → zaJ, mem_append_right → zaK, mem_append → zaR, drop_zero → zaS, take_of_length_le → zaV, drop_append_of_le_length → zaW, nodup_append → zba, getElem?_drop → zbb, drop_of_length_le → zbf, nodup_cons → zbh, length_map → zbi, mem_singleton → zbk, getElem?_cons_zero → zbl, length_eq_one_iff → zbp, getD_eq_getElem?_getD → zbq, getElem?_take_of_lt → zbw, replicate_succ → zb0, flatten_append → zb1, flatten_nil → zb2, Perm → zb7, any_cons → zb8, getElem?_set_ne → zb9, drop_drop → zbA, drop_length → zbB, mem_map → zbF, map_map → zbG
open _root_.Nat renaming le_refl → zam, zero_add → za3, le_trans → zaB, add_assoc → zaL, sub_self → zaP, add_zero → zaZ, mul_one → zbt, add_comm → zbE
open _root_.Array renaming ext' → zbe
open _root_.Int renaming natCast_zero → zaX, toNat_natCast → zbz
section
open Go
def Fw (l : ByteArray) (last : Bool) : Bool := !vPH l || (l.toList == (⟨#[43]⟩ : ByteArray).toList || (l.toList == (⟨#[35]⟩ : ByteArray).toList && last))
def Ey : List ByteArray → Bool
 | [] => true
 | x :: r => Fw x r.isEmpty && Ey r
def Fz (s : ByteArray) : Bool := Bi s && (!(s.toList == (⟨#[]⟩ : ByteArray).toList) && decide (((Bq s).length : Int) ≤ 6))
def Cd (s : ByteArray) : Bool := Ey (Bq s) && Fz s
theorem eqB {a b : ByteArray} : (a.toList == b.toList) = true ↔ a = b := by
 rw [beq_iff_eq]
 constructor
 intro h
 have h2 : a.data.toList = b.data.toList := by simpa [ByteArray.toList_eq] using h
 exact ByteArray.ext (zbe h2)
 rintro rfl
 rfl
theorem We : ∀ (r cur : List UInt8), (Z1 cur r).length ≤ r.length + 1
 | [], cur => by simp [Z1]
 | c :: r, cur => by
  rw [Z1]
  split
  have := We r []
  simp only [zar]
  omega
  have := We r (cur ++ [c])
  simp only [zar]
  omega
theorem Qv : ∀ (r cur : List UInt8), ∀ x ∈ Z1 cur r, x.length ≤ cur.length + r.length
 | [], cur, x, h => by
  simp only [Z1, zbk] at h
  subst h
  simp
 | c :: r, cur, x, h => by
  rw [Z1] at h
  split at h
  rcases List.mem_cons.1 h with rfl | h
  simp only [zar]
  omega
  have := Qv r [] x h
  simp only [zar, zat] at *
  omega
  have := Qv r (cur ++ [c]) x h
  simp only [zag, zar, zat] at *
  omega
theorem Jk (s : ByteArray) (hs : s.size ≤ 1048576) : (Bq s).length ≤ 1048577 := by
 have := We s.data.toList []
 unfold Bq
 rw [zbi]
 have e : s.data.toList.length = s.size := by simp
 omega
theorem U7 (s : ByteArray) (hs : s.size ≤ 1048576) (x : ByteArray) (hx : x ∈ Bq s) : x.size ≤ 1048576 := by
 unfold Bq at hx
 obtain ⟨l, hl, rfl⟩ := zbF.1 hx
 have := Qv s.data.toList [] l hl
 have e : s.data.toList.length = s.size := by simp
 have e2 : (ofL l).size = l.length := by simp [ofL, ByteArray.size]
 simp only [zat] at this
 omega
theorem Ajd (a b : Nat) : decide (((a : Nat) : Int) < ((a + (b + 1) : Nat) : Int) - 1) = !decide (((a : Nat) : Int) = ((a + (b + 1) : Nat) : Int) - 1) := by
 by_cases h : b = 0
 rw [decide_eq_false (by omega), decide_eq_true (by omega)]
 rfl
 rw [decide_eq_true (by omega), decide_eq_false (by omega)]
 rfl
theorem Acc (l : ByteArray) (last : Bool) : Fw l last = !((H7 l 43 && !(l.toList == (⟨#[43]⟩ : ByteArray).toList)) || (H7 l 35 && (!(l.toList == (⟨#[35]⟩ : ByteArray).toList) || !last))) := by
 unfold Fw
 rw [show vPH l = (H7 l 43 || H7 l 35) from rfl]
 by_cases h1 : (l.toList == (⟨#[43]⟩ : ByteArray).toList) = true
 obtain rfl := eqB.1 h1
 have e1 : H7 (⟨#[43]⟩ : ByteArray) 43 = true := by decide
 have e2 : H7 (⟨#[43]⟩ : ByteArray) 35 = false := by decide
 rw [e1, e2, h1]
 simp
 by_cases h2 : (l.toList == (⟨#[35]⟩ : ByteArray).toList) = true
 obtain rfl := eqB.1 h2
 have e1 : H7 (⟨#[35]⟩ : ByteArray) 43 = false := by decide
 have e2 : H7 (⟨#[35]⟩ : ByteArray) 35 = true := by decide
 rw [e1, e2, h2, Bool.eq_false_iff.2 h1]
 simp
 rw [Bool.eq_false_iff.2 h1, Bool.eq_false_iff.2 h2]
 cases H7 l 43 <;> cases H7 l 35 <;> rfl
theorem AdT (n : Nat) (x : ByteArray) (b : Bool) (hx : x.size ≤ 1048576) : Di E0 (n + 1) 4 150 [.sc (.string x), .sc (.bool b)] = some (.sc (.bool (Fw x b))) := by
 rw [Be, Afr, f150]
 refine C7 (G := (· = some (sb (Fw x b)))) ?_
 try simp only [A5, D8, Bg, Pr.gT, Pr.gF, Pr.hT, Pr.hF, Pr.kT, Pr.kF, Bv]
 have s0 : Sep [] [] := C1
 refine Mt rfl rfl (Us _ x hx) (C5 (Aa ((vPH x)) (fun h1 => ?_) (fun h1 => ?_)))
 refine Af (nF h1) (Af (nF h1) (AdD (A6 (nF h1) (Aa ((x.toList == (⟨#[43]⟩ : ByteArray).toList)) (fun h2 => ?_) (fun h2 => ?_)))))
 refine Ac h2 (Ac h2 (Ac h2 (D7 (Ac h2 (B4 h2 (Ah rfl ?_))))))
 have e : Fw x b = true := by
  unfold Fw; simp only [h1, h2, Ay]
 ·rw [e]
  first | done | rfl
 refine Af h2 (Af h2 (AdD (Af h2 (Aa ((x.toList == (⟨#[35]⟩ : ByteArray).toList)) (fun h3 => ?_) (fun h3 => ?_)))))
 refine Af h3 (Af h2 (B4 h3 (A6 h2 (Ah rfl ?_))))
 have e : Fw x b = b := by
  unfold Fw; simp only [h1, h2, h3, Ay]
 ·rw [e]
  first | done | rfl
 refine Ac h3 (Af h2 (A6 h3 (A6 h2 (Ah rfl ?_))))
 have e : Fw x b = false := by
  unfold Fw; simp only [h1, h2, h3, Ay]
 ·rw [e]
  first | done | rfl
 refine Ac (nT h1) (Ac (nT h1) (B4 (nT h1) (Ac rfl (Ac rfl (Ac rfl (D7 (Ac rfl (B4 rfl (Ah rfl ?_)))))))))
 have e : Fw x b = true := by
  unfold Fw; simp only [h1, Ay]
 ·rw [e]
  first | done | rfl
theorem Nv (n : Nat) (hn : 1048576 < n) (s : ByteArray) (hs : s.size ≤ 1048576) (ks : okS s)   : ∀ (t pre : List ByteArray) (m : Nat) (i : Int) (x1 : AV) (H : Ae), (Bq s) = pre ++ t → i = ((pre.length : Nat) : Int) → t.length < m → Bn x1 = true → Sep H [.own x1 56 (E3 (Bq s))] → Gd (· = some (.sc (.bool (Ey t && Fz s)))) (Mp (PR (n + 5) AV) (n + 5) (fun x H => Bm A4 E0.tp 4 H x) m (.sc (.string s)) (x1) (x1) (.sc (.int .i64 (((Bq s).length : Nat) : Int))) (.sc (.int .i64 i)) H)
 | [], pre, m + 1, i, x1, H, he, hi, hm, lx1, s0 => by
  obtain rfl : pre = (Bq s) := by simpa using he.symm
  have hlen : (Bq s).length ≤ 1048577 := Jk s hs
  have hlen : (Bq s).length ≤ 1048577 := Jk s hs
  rw [Mp]
  try simp only [A9, A5, D8, Aw, Bg, Pr.gT, Pr.gF, Pr.hT, Pr.hF, Pr.kT, Pr.kF, Bv, B3, Bw]
  refine D4 (Ax (by simp [hi]) (Mt rfl rfl (Hs _ s ks) (Aa ((Bi s)) (fun h201 => ?_) (fun h201 => ?_))))
  refine Af h201 (Af h201 (Qs (B4 h201 (Aa ((s.toList == (⟨#[]⟩ : ByteArray).toList)) (fun h202 => ?_) (fun h202 => ?_)))))
  refine Ac (nF h202) (Ac (nF h202) (Ac (nF h202) (A6 (nF h202) (Ah rfl ?_))))
  have e : (Ey [] && Fz s) = false := by
   unfold Fz; simp only [Ey, h201, h202, Ay]
  ·rw [e]
   first | done | rfl
  refine Af (nT h202) (Af (nT h202) (Jb s0 (.here) (Af (nT h202) (J2 (B4 (nT h202) (Ah rfl ?_))))))
  have e : (Ey [] && Fz s) = (decide ((((Bq s).length : Nat) : Int) ≤ 6)) := by
   unfold Fz; simp only [Ey, h201, h202, Ay]
  ·rw [e]
   first | done | rfl
  refine Ac h201 (Ac h201 (A6 h201 (Ac rfl (Ac rfl (Ac rfl (A6 rfl (Ah rfl ?_)))))))
  have e : (Ey [] && Fz s) = false := by
   unfold Fz; simp only [Ey, h201, Ay]
  ·rw [e]
   first | done | rfl
 | y :: t, pre, m + 1, i, x1, H, he, hi, hm, lx1, s0 => by
  have hlt : pre.length < (Bq s).length := by rw [he]; simp
  have hlen : (Bq s).length ≤ 1048577 := Jk s hs
  have hlen : (Bq s).length ≤ 1048577 := Jk s hs
  have hys : y.size ≤ 1048576 := U7 s hs y (by rw [he]; simp)
  have hd : decide (i = (((Bq s).length : Nat) : Int) - 1) = t.isEmpty := by
   rw [he, hi]; cases t <;> simp <;> omega
  rw [Mp]
  try simp only [A9, A5, D8, Aw, Bg, Pr.gT, Pr.gF, Pr.hT, Pr.hF, Pr.kT, Pr.kF, Bv, B3, Bw]
  refine D4 (Au (by simp [hi]; omega) ?_)
  have he201 : ((Bq s))[(i).toNat]? = some y := by rw [he, hi]; simp
  refine Mu (y := y) s0 (.here) ⟨_, _, rfl, rfl, rfl⟩ (by omega) he201 fun de201 oe201 re201 => Pb (k := 0) re201 (by omega) rfl (Jb s0 (.here) (Nt (by omega) (by omega) (Bd (Ar (v := (.bool (Fw y (decide (i = ((((Bq s).length : Nat) : Int) - 1)))))) s0 rfl (H5 .nil) (AdT (n + 4) y (decide (i = ((((Bq s).length : Nat) : Int) - 1))) hys) (C5 (Aa ((Fw y (decide (i = ((((Bq s).length : Nat) : Int) - 1))))) (fun h203 => ?_) (fun h203 => ?_)))))))
  refine Ax (nF h203) (Ca (by omega) (by omega) ?_)
  have e204 : (Ey (y :: t) && Fz s) = (Ey t && Fz s) := by
   rw [Ey, ← hd]; simp only [h203, Ay]
  rw [e204]
  exact Nv n hn s hs ks   t (pre ++ [y]) m _ x1 _ (by rw [he]; simp) (by rw [hi]; simp) (by simpa using hm) lx1 (by simpa only [za2, zaq, zaD] using (s0.sel (.cons (.here) .nil)))
  refine Au (nT h203) (Ah rfl ?_)
  have e : (Ey (y :: t) && Fz s) = false := by
   rw [Ey, ← hd]; simp only [h203, Ay]
  ·rw [e]
   first | done | rfl
theorem Rk (n : Nat) (hn : 1048576 < n) (s : ByteArray) (hs : s.size ≤ 1048576) (ks : okS s) : Di E0 (n + 6) 4 138 [.sc (.string s)] = some (.sc (.bool (Cd s))) := by
 rw [Be, Afk, f138]
 refine C7 (G := (· = some (sb (Cd s)))) ?_
 have hlen : (Bq s).length ≤ 1048577 := Jk s hs
 try simp only [B3]
 have s0 : Sep [] [] := C1
 exact Cl s0 rfl (.cons .sc .nil) (Rl (n + 4) s hs) (Tj (Bq s)) fun x1 H lx1 s2 => Jb s2 (.here) (Nv n hn s hs ks   (Bq s) [] _ 0 x1 _ rfl rfl (by omega) lx1 s2)
theorem Hq (n : Nat) (hn : 1048576 < n) (s : ByteArray) (hs : s.size ≤ 1048576) (ks : okS s)   : ∀ (t pre : List ByteArray) (m : Nat) (i : Int) (x1 : AV) (H : Ae), (Bq s) = pre ++ t → i = ((pre.length : Nat) : Int) → t.length < m → Bn x1 = true → Sep H [.own x1 56 (E3 (Bq s))] → Gd (· = some (.sc (.bool (Ey t && Fz s)))) (O8 (PR (n + 5) AV) (n + 5) (fun x H => Bm A4 E0.tp 4 H x) m (.sc (.string s)) (x1) (.sc (.int .i64 i)) H)
 | [], pre, m + 1, i, x1, H, he, hi, hm, lx1, s0 => by
  obtain rfl : pre = (Bq s) := by simpa using he.symm
  have hlen : (Bq s).length ≤ 1048577 := Jk s hs
  have hlen : (Bq s).length ≤ 1048577 := Jk s hs
  rw [O8]
  try simp only [A9, A5, Aw, Bg, Pr.gT, Pr.gF, Pr.hT, Pr.hF, Pr.kT, Pr.kF, Bv, B3, Bw]
  refine Jb s0 (.here) (D4 (Ax (by simp [hi]) (Ar (v := (.bool (Bi s))) s0 rfl (.cons .sc .nil) (Gc (n + 1) (by omega) _ s) (Aa ((Bi s)) (fun h201 => ?_) (fun h201 => ?_)))))
  refine Af h201 (Af h201 (Qs (B4 h201 (Aa ((s.toList == (⟨#[]⟩ : ByteArray).toList)) (fun h202 => ?_) (fun h202 => ?_)))))
  refine Ac (nF h202) (Ac (nF h202) (Ac (nF h202) (A6 (nF h202) (Ah rfl ?_))))
  have e : (Ey [] && Fz s) = false := by
   unfold Fz; simp only [Ey, h201, h202, Ay]
  ·rw [e]
   first | done | rfl
  refine Af (nT h202) (Af (nT h202) (Jb s0 (.here) (Af (nT h202) (J2 (B4 (nT h202) (Ah rfl ?_))))))
  have e : (Ey [] && Fz s) = (decide ((((Bq s).length : Nat) : Int) ≤ 6)) := by
   unfold Fz; simp only [Ey, h201, h202, Ay]
  ·rw [e]
   first | done | rfl
  refine Ac h201 (Ac h201 (A6 h201 (Ac rfl (Ac rfl (Ac rfl (A6 rfl (Ah rfl ?_)))))))
  have e : (Ey [] && Fz s) = false := by
   unfold Fz; simp only [Ey, h201, Ay]
  ·rw [e]
   first | done | rfl
 | y :: t, pre, m + 1, i, x1, H, he, hi, hm, lx1, s0 => by
  have hlt : pre.length < (Bq s).length := by rw [he]; simp
  have hlen : (Bq s).length ≤ 1048577 := Jk s hs
  have hlen : (Bq s).length ≤ 1048577 := Jk s hs
  have hys : y.size ≤ 1048576 := U7 s hs y (by rw [he]; simp)
  have hd : decide (i = (((Bq s).length : Nat) : Int) - 1) = t.isEmpty := by
   rw [he, hi]; cases t <;> simp <;> omega
  have hv : Fw y t.isEmpty = !((H7 y 43 && !(y.toList == (⟨#[43]⟩ : ByteArray).toList)) || (H7 y 35 && (!(y.toList == (⟨#[35]⟩ : ByteArray).toList) || decide (i < (((Bq s).length : Nat) : Int) - 1)))) := by
   rw [Acc, ← hd, show decide (i < (((Bq s).length : Nat) : Int) - 1) = !decide (i = (((Bq s).length : Nat) : Int) - 1) from by rw [he, hi, zag, zar]; exact Ajd _ _]
  rw [O8]
  try simp only [A9, A5, Aw, Bg, Pr.gT, Pr.gF, Pr.hT, Pr.hF, Pr.kT, Pr.kF, Bv, B3, Bw]
  refine Jb s0 (.here) (D4 (Au (by simp [hi]; omega) ?_))
  have he201 : ((Bq s))[(i).toNat]? = some y := by rw [he, hi]; simp
  refine Mu (y := y) s0 (.here) ⟨_, _, rfl, rfl, rfl⟩ (by omega) he201 fun de201 oe201 re201 => Pb (k := 0) re201 (by omega) rfl (Ar (v := (.bool (H7 y 43))) s0 rfl (H5 .nil) (AgL (n + 4) (by omega) _ y hys) (Aa ((H7 y 43)) (fun h203 => ?_) (fun h203 => ?_)))
  refine Af h203 (Af h203 (Af h203 ?_))
  have he204 : ((Bq s))[(i).toNat]? = some y := by rw [he, hi]; simp
  refine Mu (y := y) s0 (.here) ⟨_, _, rfl, rfl, rfl⟩ (by omega) he204 fun de204 oe204 re204 => Af h203 (Pb (k := 0) re204 (by omega) rfl (Af h203 (Qs (B4 h203 (Aa ((y.toList == (⟨#[43]⟩ : ByteArray).toList)) (fun h206 => ?_) (fun h206 => ?_))))))
  refine Af (nF h206) (Af (nF h206) (Af (nF h206) ?_))
  have he207 : ((Bq s))[(i).toNat]? = some y := by rw [he, hi]; simp
  refine Mu (y := y) s0 (.here) ⟨_, _, rfl, rfl, rfl⟩ (by omega) he207 fun de207 oe207 re207 => Af (nF h206) (Pb (k := 0) re207 (by omega) rfl (Af (nF h206) (Ar (v := (.bool (H7 y 35))) s0 rfl (H5 .nil) (AdH (n + 4) (by omega) _ y hys) (Af (nF h206) (Aa ((H7 y 35)) (fun h209 => ?_) (fun h209 => ?_))))))
  refine Af h209 (Af h209 (Af h209 ?_))
  have he210 : ((Bq s))[(i).toNat]? = some y := by rw [he, hi]; simp
  refine Mu (y := y) s0 (.here) ⟨_, _, rfl, rfl, rfl⟩ (by omega) he210 fun de210 oe210 re210 => Af h209 (Pb (k := 0) re210 (by omega) rfl (Af h209 (Qs (Af h209 (Aa ((y.toList == (⟨#[35]⟩ : ByteArray).toList)) (fun h212 => ?_) (fun h212 => ?_))))))
  refine Af (nF h212) (Af (nF h212) (Af (nF h212) (Jb s0 (.here) (Af (nF h212) (Nt (by omega) (by omega) (Af (nF h212) (D4 (Af h209 (A6 (nF h212) (Af (nF h206) (B4 h209 (A6 (nF h206) (Aa ((decide (i < ((((Bq s).length : Nat) : Int) - 1)))) (fun h213 => ?_) (fun h213 => ?_))))))))))))))
  refine Au h213 (Ah rfl ?_)
  have e : (Ey (y :: t) && Fz s) = false := by
   rw [Ey, hv]; simp only [h203, h206, h209, h212, h213, Ay]
  ·rw [e]
   first | done | rfl
  refine Ax h213 (Ca (by omega) (by omega) ?_)
  have e214 : (Ey (y :: t) && Fz s) = (Ey t && Fz s) := by
   rw [Ey, hv]; simp only [h203, h206, h209, h212, h213, Ay]
  rw [e214]
  exact Hq n hn s hs ks   t (pre ++ [y]) m _ x1 _ (by rw [he]; simp) (by rw [hi]; simp) (by simpa using hm) lx1 (by simpa only [za2, zaq, zaD] using (s0.sel (.cons (.here) .nil)))
  refine Ac (nT h212) (Ac (nT h212) (Ac (nT h212) (Ac (nT h212) (Ac (nT h212) (Af h209 (B4 (nT h212) (Af (nF h206) (B4 h209 (A6 (nF h206) (Au rfl (Ah rfl ?_)))))))))))
  have e : (Ey (y :: t) && Fz s) = false := by
   rw [Ey, hv]; simp only [h203, h206, h209, h212, Ay]
  ·rw [e]
   first | done | rfl
  refine Ac h209 (Ac h209 (Ac h209 (Ac h209 (Ac h209 (Ac h209 (D7 (D7 (D7 (D7 (D7 (Ac h209 (Af (nF h206) (A6 h209 (A6 (nF h206) (Ax rfl (Ca (by omega) (by omega) ?_))))))))))))))))
  have e215 : (Ey (y :: t) && Fz s) = (Ey t && Fz s) := by
   rw [Ey, hv]; simp only [h203, h206, h209, Ay]
  rw [e215]
  exact Hq n hn s hs ks   t (pre ++ [y]) m _ x1 _ (by rw [he]; simp) (by rw [hi]; simp) (by simpa using hm) lx1 (by simpa only [za2, zaq, zaD] using (s0.sel (.cons (.here) .nil)))
  refine Ac (nT h206) (Ac (nT h206) (Ac (nT h206) (Ac (nT h206) (Ac (nT h206) (Ac (nT h206) (D7 (D7 (D7 (D7 (D7 (D7 (D7 (D7 (D7 (D7 (D7 (D7 (Ac (nT h206) (B4 (nT h206) (Au rfl (Ah rfl ?_)))))))))))))))))))))
  have e : (Ey (y :: t) && Fz s) = false := by
   rw [Ey, hv]; simp only [h203, h206, Ay]
  ·rw [e]
   first | done | rfl
  refine Ac h203 (Ac h203 (Ac h203 (Ac h203 (Ac h203 (A6 h203 (Af rfl (Af rfl (Af rfl ?_))))))))
  have he216 : ((Bq s))[(i).toNat]? = some y := by rw [he, hi]; simp
  refine Mu (y := y) s0 (.here) ⟨_, _, rfl, rfl, rfl⟩ (by omega) he216 fun de216 oe216 re216 => Af rfl (Pb (k := 0) re216 (by omega) rfl (Af rfl (Ar (v := (.bool (H7 y 35))) s0 rfl (H5 .nil) (AdH (n + 4) (by omega) _ y hys) (Af rfl (Aa ((H7 y 35)) (fun h218 => ?_) (fun h218 => ?_))))))
  refine Af h218 (Af h218 (Af h218 ?_))
  have he219 : ((Bq s))[(i).toNat]? = some y := by rw [he, hi]; simp
  refine Mu (y := y) s0 (.here) ⟨_, _, rfl, rfl, rfl⟩ (by omega) he219 fun de219 oe219 re219 => Af h218 (Pb (k := 0) re219 (by omega) rfl (Af h218 (Qs (Af h218 (Aa ((y.toList == (⟨#[35]⟩ : ByteArray).toList)) (fun h221 => ?_) (fun h221 => ?_))))))
  refine Af (nF h221) (Af (nF h221) (Af (nF h221) (Jb s0 (.here) (Af (nF h221) (Nt (by omega) (by omega) (Af (nF h221) (D4 (Af h218 (A6 (nF h221) (Af rfl (B4 h218 (A6 rfl (Aa ((decide (i < ((((Bq s).length : Nat) : Int) - 1)))) (fun h222 => ?_) (fun h222 => ?_))))))))))))))
  refine Au h222 (Ah rfl ?_)
  have e : (Ey (y :: t) && Fz s) = false := by
   rw [Ey, hv]; simp only [h203, h218, h221, h222, Ay]
  ·rw [e]
   first | done | rfl
  refine Ax h222 (Ca (by omega) (by omega) ?_)
  have e223 : (Ey (y :: t) && Fz s) = (Ey t && Fz s) := by
   rw [Ey, hv]; simp only [h203, h218, h221, h222, Ay]
  rw [e223]
  exact Hq n hn s hs ks   t (pre ++ [y]) m _ x1 _ (by rw [he]; simp) (by rw [hi]; simp) (by simpa using hm) lx1 (by simpa only [za2, zaq, zaD] using (s0.sel (.cons (.here) .nil)))
  refine Ac (nT h221) (Ac (nT h221) (Ac (nT h221) (Ac (nT h221) (Ac (nT h221) (Af h218 (B4 (nT h221) (Af rfl (B4 h218 (A6 rfl (Au rfl (Ah rfl ?_)))))))))))
  have e : (Ey (y :: t) && Fz s) = false := by
   rw [Ey, hv]; simp only [h203, h218, h221, Ay]
  ·rw [e]
   first | done | rfl
  refine Ac h218 (Ac h218 (Ac h218 (Ac h218 (Ac h218 (Ac h218 (D7 (D7 (D7 (D7 (D7 (Ac h218 (Af rfl (A6 h218 (A6 rfl (Ax rfl (Ca (by omega) (by omega) ?_))))))))))))))))
  have e224 : (Ey (y :: t) && Fz s) = (Ey t && Fz s) := by
   rw [Ey, hv]; simp only [h203, h218, Ay]
  rw [e224]
  exact Hq n hn s hs ks   t (pre ++ [y]) m _ x1 _ (by rw [he]; simp) (by rw [hi]; simp) (by simpa using hm) lx1 (by simpa only [za2, zaq, zaD] using (s0.sel (.cons (.here) .nil)))
theorem Li (n : Nat) (hn : 1048576 < n) (s : ByteArray) (hs : s.size ≤ 1048576) (ks : okS s) : Di E0 (n + 6) 4 92 [.sc (.string s)] = some (.sc (.bool (Cd s))) := by
 rw [Be, AhD, f92]
 refine C7 (G := (· = some (sb (Cd s)))) ?_
 have hlen : (Bq s).length ≤ 1048577 := Jk s hs
 try simp only [Fk]
 have s0 : Sep [] [] := C1
 exact Cl s0 rfl (.cons .sc .nil) (Rw (n + 4) (by omega) s hs) (Tj (Bq s)) fun x1 H lx1 s2 => Hq n hn s hs ks   (Bq s) [] _ 0 x1 _ rfl rfl (by omega) lx1 s2
end
section
open Go
theorem Aic {s : ByteArray} (h : s.size ≤ 1048576) : okS s := zaB h (by decide)
theorem Jh (n : Nat) (hn : 1048576 < n) (ty : Nat) (s : ByteArray) (hs : s.size ≤ 1048576) : Di E0 (n + 5) ty 91 [.sc (.string s)] = some (.sc (.bool (Dr s))) := by
 rw [Be, AhC, f91]
 try simp only [Fx, Fk, Bx, A9, Dz, A5, Ik, J5, D8, Aw, Bg, Pr.gT, Pr.gF, Pr.hT, Pr.hF, Pr.kT, Pr.kF, Bv, B3, Gr, Bw, Mi, G4, Ii, Cz, C2, N9, D3, Dm, Gg]
 refine J4 rfl (Ep (I4 _ _) Jj) (Gc (n + 0) (by omega) _ s) ?_
 apply B9 ((Bi s) && (!(s.toList == (⟨#[]⟩ : ByteArray).toList)))
 intro b1 q1
 refine Aa ((Bi s)) (fun h1 => ?_) (fun h1 => ?_)
 exact A3 h1 (A3 h1 (Du (v := sb (!(s.toList == (⟨#[]⟩ : ByteArray).toList))) (fun k => rfl) (Dw h1 (Ix q1 h1) rfl)))
 exact A2 h1 (A2 h1 (Dv h1 (Iw q1 h1) rfl))
 intro b1 q1
 apply B9 (b1 && (!(H7 s 43)))
 intro b2 q2
 refine Aa (b1) (fun h2 => ?_) (fun h2 => ?_)
 exact A3 h2 (A3 h2 (J4 rfl (Ep (I4 _ _) (Ep (I4 _ _) Jj)) (AgL (n + 3) (by omega) _ s hs) (A3 h2 (Vs (Dw h2 (Ix q2 h2) rfl)))))
 exact A2 h2 (A2 h2 (A2 h2 (Dv h2 (Iw q2 h2) rfl)))
 intro b2 q2
 apply B9 (b2 && (!(H7 s 35)))
 intro b3 q3
 refine Aa (b2) (fun h3 => ?_) (fun h3 => ?_)
 exact A3 h3 (A3 h3 (J4 rfl (Ep (I4 _ _) (Ep (I4 _ _) Jj)) (AdH (n + 3) (by omega) _ s hs) (A3 h3 (Vs (Dw h3 (Ix q3 h3) rfl)))))
 exact A2 h3 (A2 h3 (A2 h3 (Dv h3 (Iw q3 h3) rfl)))
 intro b3 q3
 apply B9 (b3 && (decide (((Bq s).length : Int) ≤ 6)))
 intro b4 q4
 refine Aa (b3) (fun h4 => ?_) (fun h4 => ?_)
 exact A3 h4 (A3 h4 (AaF rfl (Ep (I4 _ _) Jj) (Rw (n + 3) (by omega) s hs) fun N5 X5 z5 => A3 h4 (Ae1 (A3 h4 (Du (v := sb (decide (((Bq s).length : Int) ≤ 6))) (fun k => rfl) (Dw h4 (Ix q4 h4) rfl))))))
 exact A2 h4 (A2 h4 (A2 h4 (A2 h4 (Dv h4 (Iw q4 h4) rfl))))
 intro b4 q4
 exact Ae0 (by subst_vars; unfold Dr; first | rfl | (unfold vPH; cases Bi s <;> cases H7 s 43 <;> cases H7 s 35 <;> simp))
theorem Pc (n : Nat) (hn : 1048576 < n) (ty : Nat) (s : ByteArray) (hs : s.size ≤ 1048576) : Di E0 (n + 5) ty 108 [.sc (.string s)] = some (.sc (.bool (Dr s))) := by
 rw [Be, AeS, f108]
 try simp only [Fx, Fk, Bx, A9, Dz, A5, Ik, J5, D8, Aw, Bg, Pr.gT, Pr.gF, Pr.hT, Pr.hF, Pr.kT, Pr.kF, Bv, B3, Gr, Bw, Mi, G4, Ii, Cz, C2, N9, D3, Dm, Gg]
 refine AdU rfl (Ep (I4 _ _) Jj) (Hs _ s (Aic hs)) ?_
 apply B9 ((Bi s) && (!(s.toList == (⟨#[]⟩ : ByteArray).toList)))
 intro b1 q1
 refine Aa ((Bi s)) (fun h1 => ?_) (fun h1 => ?_)
 exact A3 h1 (A3 h1 (Du (v := sb (!(s.toList == (⟨#[]⟩ : ByteArray).toList))) (fun k => rfl) (Dw h1 (Ix q1 h1) rfl)))
 exact A2 h1 (A2 h1 (Dv h1 (Iw q1 h1) rfl))
 intro b1 q1
 apply B9 (b1 && (!(vPH s)))
 intro b2 q2
 refine Aa (b1) (fun h2 => ?_) (fun h2 => ?_)
 exact A3 h2 (A3 h2 (AdU rfl (Ep (I4 _ _) (Ep (I4 _ _) Jj)) (Us _ s hs) (A3 h2 (Vs (Dw h2 (Ix q2 h2) rfl)))))
 exact A2 h2 (A2 h2 (A2 h2 (Dv h2 (Iw q2 h2) rfl)))
 intro b2 q2
 apply B9 (b2 && (decide (((Bq s).length : Int) ≤ 6)))
 intro b3 q3
 refine Aa (b2) (fun h3 => ?_) (fun h3 => ?_)
 exact A3 h3 (A3 h3 (AaF rfl (Ep (I4 _ _) Jj) (Rl (n + 3) s hs) fun N4 X4 z4 => A3 h3 (Ae1 (A3 h3 (Du (v := sb (decide (((Bq s).length : Int) ≤ 6))) (fun k => rfl) (Dw h3 (Ix q3 h3) rfl))))))
 exact A2 h3 (A2 h3 (A2 h3 (A2 h3 (Dv h3 (Iw q3 h3) rfl))))
 intro b3 q3
 exact Ae0 (by subst_vars; unfold Dr; first | rfl | (unfold vPH; cases Bi s <;> cases H7 s 43 <;> cases H7 s 35 <;> simp))
end
section
open Go
def I9 (x y : WantV) : Bool := x.fFilter.toList == y.fFilter.toList && x.fQos == y.fQos
theorem Uq (x y : WantV) : Lc [1, 0] (Cj x) (Cj y) = some (I9 x y) := by
 simp only [Cj, Lc, Y9, I9, if_true, zad]
 generalize (x.fFilter.toList == y.fFilter.toList) = b0
 generalize (x.fQos == y.fQos) = b1
 cases b0 <;> cases b1 <;> rfl
theorem Za (n : Nat) (hn : 1048576 < n) (ty : Nat) (l q : List WantV) (hl : l.length ≤ 1048576) : Di E0 (n + 1) ty 132 [Dk Cj l, Dk Cj q] = some (.sc (.bool (Gz I9 l q))) := by
 rw [Be, Afg, f132]
 simp only [B3, A5, Aw]
 rw [Hn, Hn, Sa, Fm, Gz]
 by_cases h : l.length = q.length
 rw [if_neg (by simpa using h), if_pos h]
 rw [Hn]
 have key := Ku (β := AV) Cj (G1) (by decide) (fun x => .agg (Cj x)) (fun p k => D1 true 2 p [] k) (fun x r k => AdR 2 _ _ [] k (G1 x)) (fun x y k => Qc .neq [1, 0] x y k) I9 (fun x y k => Aao _ _ _ _ (Uq x y) k) l q h hl (fun m i => Po (PR n AV) n (fun x H => Bm A4 E0.tp ty H x) m (Dk Cj l) (Dk Cj q) (si l.length) i []) (some bF) (some bT) (fun m i => rfl) l q [] [] n rfl rfl rfl (by omega)
 simp only [zat, zaX] at key
 refine key.trans ?_
 cases Iz I9 l q <;> rfl
 rw [if_pos (by simpa using h), if_neg h]
 rfl
theorem Abh (n : Nat) (hn : 1048576 < n) (ty : Nat) (l q : List ByteArray) (hl : l.length ≤ 1048576) : Di E0 (n + 1) ty 133 [E3 l, E3 q] = some (.sc (.bool (Gz Qq l q))) := by
 rw [Kp, Kp]
 rw [Be, Afh, f133]
 simp only [B3, A5, Aw]
 rw [Hn, Hn, Sa, Fm, Gz]
 by_cases h : l.length = q.length
 rw [if_neg (by simpa using h), if_pos h]
 rw [Hn]
 have key := Ku (β := AV) Sw (fun _ => rfl) (by decide) (fun z => ss z) (fun p k => D1 false 1 p [] k) (fun x r k => ldS x r [] k) (fun x y k => En .neq x y k) Qq (fun x y k => neS x y k) l q h hl (fun m i => Pp (PR n AV) n (fun x H => Bm A4 E0.tp ty H x) m (Dk Sw l) (Dk Sw q) (si l.length) i []) (some bF) (some bT) (fun m i => rfl) l q [] [] n rfl rfl rfl (by omega)
 simp only [zat, zaX] at key
 refine key.trans ?_
 cases Iz Qq l q <;> rfl
 rw [if_pos (by simpa using h), if_neg h]
 rfl
theorem Abg (n : Nat) (hn : 1048576 < n) (ty : Nat) (l q : List Int) (hl : l.length ≤ 1048576) : Di E0 (n + 1) ty 134 [E1 l, E1 q] = some (.sc (.bool (Gz Xj l q))) := by
 rw [Km, Km]
 rw [Be, Afi, f134]
 simp only [B3, A5, Aw]
 rw [Hn, Hn, Sa, Fm, Gz]
 by_cases h : l.length = q.length
 rw [if_neg (by simpa using h), if_pos h]
 rw [Hn]
 have key := Ku (β := AV) Sv (fun _ => rfl) (by decide) (fun z => si z) (fun p k => D1 false 1 p [] k) (fun x r k => ldI x r [] k) (fun x y k => En .neq x y k) Xj (fun x y k => neI x y k) l q h hl (fun m i => Pq (PR n AV) n (fun x H => Bm A4 E0.tp ty H x) m (Dk Sv l) (Dk Sv q) (si l.length) i []) (some bF) (some bT) (fun m i => rfl) l q [] [] n rfl rfl rfl (by omega)
 simp only [zat, zaX] at key
 refine key.trans ?_
 cases Iz Xj l q <;> rfl
 rw [if_pos (by simpa using h), if_neg h]
 rfl
def Gw (a b : PacketV) : Bool := (a.fType == b.fType) && (a.fDup == b.fDup) && (a.fQos == b.fQos) && (a.fRetain == b.fRetain) && (a.fId == b.fId) && (a.fTopic.toList == b.fTopic.toList) && (a.fBody.toList == b.fBody.toList) && (a.fClient.toList == b.fClient.toList) && (a.fLevel == b.fLevel) && (a.fClean == b.fClean) && (a.fKeep == b.fKeep) && (a.fHasWill == b.fHasWill) && (a.fWTopic.toList == b.fWTopic.toList) && (a.fWBody.toList == b.fWBody.toList) && (a.fWQos == b.fWQos) && (a.fWRetain == b.fWRetain) && (a.fHasUser == b.fHasUser) && (a.fUser.toList == b.fUser.toList) && (a.fHasPass == b.fHasPass) && (a.fPass.toList == b.fPass.toList) && (a.fCode == b.fCode) && (a.fPresent == b.fPresent)
def K3 (a b : PacketV) : Bool := Gz I9 a.fWants b.fWants && Gz Qq a.fNames b.fNames && Gz Xj a.fCodes b.fCodes
def Cx (a b : PacketV) : Bool := K3 a b && Gw a b
theorem Agd (n : Nat) (hn : 1048576 < n) (ty : Nat) (a b : PacketV) (H : Ae) (i1 i2 : Nat) (B1 : H[i1]? = some ⟨A0 a, true, true⟩) (B2 : H[i2]? = some ⟨A0 b, true, true⟩) (hl2 : a.fCodes.length ≤ 1048576) (hq2 : a.fCodes.length = b.fCodes.length) : Np (PR (n + 1) AV) (n + 1) (fun x H => Bm A4 E0.tp ty H x) (n + 1) (.ptr i1 0) (.ptr i2 0) (.sc (.int .i64 0)) H = some (.sc (.bool (if Iz Xj a.fCodes b.fCodes then (Gw a b) else false))) := by
 have hL : ∀ m i, Np (PR (n + 1) AV) (n + 1) (fun x H => Bm A4 E0.tp ty H x) (m + 1) (.ptr i1 0) (.ptr i2 0) i H = En .lss i (si a.fCodes.length) fun t14 => Gn t14 (Fv 1 (Dk Sv a.fCodes) i fun t19 => D1 false 1 t19 H fun t20 => Fv 1 (Dk Sv b.fCodes) i fun t23 => D1 false 1 t23 H fun t24 => (fun x y k => En .neq x y k) t20 t24 fun t25 => Gn t25 (some bF) (En .add i (si 1) fun t16 => Np (PR (n + 1) AV) (n + 1) (fun x H => Bm A4 E0.tp ty H x) m (.ptr i1 0) (.ptr i2 0) t16 H)) (some (sb (Gw a b))) := by
  intro m i
  show (PR (n + 1) AV).fadr 24 (.ptr i1 0) _ = _
  simp only [Bx, A9, A5, Ik, J5, Aw, Bg, Pr.gT, Pr.gF, Pr.hT, Pr.hF, Pr.kT, Pr.kF, Bv, B3, Bw]
  refine Ba (C9 (c := E1 a.fCodes) B1 (Cr rfl) rfl (Me ?_))
  congr 1
  funext t
  congr 1
  refine Ba (C9 (c := E1 a.fCodes) B1 (Cr rfl) rfl ?_)
  rw [Km]
  congr 1
  funext t2
  congr 1
  funext t3
  refine Ba (C9 (c := E1 b.fCodes) B2 (Cr rfl) rfl ?_)
  rw [Km]
  rfl
  skip
  refine Ba (C9 (c := si a.fType) B1 (Cr rfl) rfl (Ba (C9 (c := si b.fType) B2 (Cr rfl) rfl (Du (v := sb (a.fType == b.fType)) (fun k => rfl) ?_))))
  apply B9 ((a.fType == b.fType) && (a.fDup == b.fDup))
  intro b1 q1
  refine Aa ((a.fType == b.fType)) (fun h1 => ?_) (fun h1 => ?_)
  exact A3 h1 (Ba (A3 h1 (C9 (c := sb a.fDup) B1 (Cr rfl) rfl (A3 h1 (Ba (A3 h1 (C9 (c := sb b.fDup) B2 (Cr rfl) rfl (A3 h1 (H4 (v := sb (a.fDup == b.fDup)) (fun k => rfl) (Dw h1 (Ix q1 h1) rfl))))))))))
  exact A2 h1 (A2 h1 (A2 h1 (A2 h1 (A2 h1 (Dv h1 (Iw q1 h1) rfl)))))
  intro b1 q1
  apply B9 (b1 && (a.fQos == b.fQos))
  intro b2 q2
  refine Aa (b1) (fun h2 => ?_) (fun h2 => ?_)
  exact A3 h2 (Ba (A3 h2 (C9 (c := si a.fQos) B1 (Cr rfl) rfl (A3 h2 (Ba (A3 h2 (C9 (c := si b.fQos) B2 (Cr rfl) rfl (A3 h2 (Du (v := sb (a.fQos == b.fQos)) (fun k => rfl) (Dw h2 (Ix q2 h2) rfl))))))))))
  exact A2 h2 (A2 h2 (A2 h2 (A2 h2 (A2 h2 (Dv h2 (Iw q2 h2) rfl)))))
  intro b2 q2
  apply B9 (b2 && (a.fRetain == b.fRetain))
  intro b3 q3
  refine Aa (b2) (fun h3 => ?_) (fun h3 => ?_)
  exact A3 h3 (Ba (A3 h3 (C9 (c := sb a.fRetain) B1 (Cr rfl) rfl (A3 h3 (Ba (A3 h3 (C9 (c := sb b.fRetain) B2 (Cr rfl) rfl (A3 h3 (H4 (v := sb (a.fRetain == b.fRetain)) (fun k => rfl) (Dw h3 (Ix q3 h3) rfl))))))))))
  exact A2 h3 (A2 h3 (A2 h3 (A2 h3 (A2 h3 (Dv h3 (Iw q3 h3) rfl)))))
  intro b3 q3
  apply B9 (b3 && (a.fId == b.fId))
  intro b4 q4
  refine Aa (b3) (fun h4 => ?_) (fun h4 => ?_)
  exact A3 h4 (Ba (A3 h4 (C9 (c := si a.fId) B1 (Cr rfl) rfl (A3 h4 (Ba (A3 h4 (C9 (c := si b.fId) B2 (Cr rfl) rfl (A3 h4 (Du (v := sb (a.fId == b.fId)) (fun k => rfl) (Dw h4 (Ix q4 h4) rfl))))))))))
  exact A2 h4 (A2 h4 (A2 h4 (A2 h4 (A2 h4 (Dv h4 (Iw q4 h4) rfl)))))
  intro b4 q4
  apply B9 (b4 && (a.fTopic.toList == b.fTopic.toList))
  intro b5 q5
  refine Aa (b4) (fun h5 => ?_) (fun h5 => ?_)
  exact A3 h5 (Ba (A3 h5 (C9 (c := ss a.fTopic) B1 (Cr rfl) rfl (A3 h5 (Ba (A3 h5 (C9 (c := ss b.fTopic) B2 (Cr rfl) rfl (A3 h5 (Du (v := sb (a.fTopic.toList == b.fTopic.toList)) (fun k => rfl) (Dw h5 (Ix q5 h5) rfl))))))))))
  exact A2 h5 (A2 h5 (A2 h5 (A2 h5 (A2 h5 (Dv h5 (Iw q5 h5) rfl)))))
  intro b5 q5
  apply B9 (b5 && (a.fBody.toList == b.fBody.toList))
  intro b6 q6
  refine Aa (b5) (fun h6 => ?_) (fun h6 => ?_)
  exact A3 h6 (Ba (A3 h6 (C9 (c := Ai a.fBody) B1 (Cr rfl) rfl (A3 h6 (Ba (A3 h6 (C9 (c := Ai b.fBody) B2 (Cr rfl) rfl (A3 h6 (J4 rfl (Ep (I3 _ _ _) (Ep (I3 _ _ _) Jj)) (P4 (n + 0) _ a.fBody b.fBody) (Dw h6 (Ix q6 h6) rfl))))))))))
  exact A2 h6 (A2 h6 (A2 h6 (A2 h6 (A2 h6 (Dv h6 (Iw q6 h6) rfl)))))
  intro b6 q6
  apply B9 (b6 && (a.fClient.toList == b.fClient.toList))
  intro b7 q7
  refine Aa (b6) (fun h7 => ?_) (fun h7 => ?_)
  exact A3 h7 (Ba (A3 h7 (C9 (c := ss a.fClient) B1 (Cr rfl) rfl (A3 h7 (Ba (A3 h7 (C9 (c := ss b.fClient) B2 (Cr rfl) rfl (A3 h7 (Du (v := sb (a.fClient.toList == b.fClient.toList)) (fun k => rfl) (Dw h7 (Ix q7 h7) rfl))))))))))
  exact A2 h7 (A2 h7 (A2 h7 (A2 h7 (A2 h7 (Dv h7 (Iw q7 h7) rfl)))))
  intro b7 q7
  apply B9 (b7 && (a.fLevel == b.fLevel))
  intro b8 q8
  refine Aa (b7) (fun h8 => ?_) (fun h8 => ?_)
  exact A3 h8 (Ba (A3 h8 (C9 (c := si a.fLevel) B1 (Cr rfl) rfl (A3 h8 (Ba (A3 h8 (C9 (c := si b.fLevel) B2 (Cr rfl) rfl (A3 h8 (Du (v := sb (a.fLevel == b.fLevel)) (fun k => rfl) (Dw h8 (Ix q8 h8) rfl))))))))))
  exact A2 h8 (A2 h8 (A2 h8 (A2 h8 (A2 h8 (Dv h8 (Iw q8 h8) rfl)))))
  intro b8 q8
  apply B9 (b8 && (a.fClean == b.fClean))
  intro b9 q9
  refine Aa (b8) (fun h9 => ?_) (fun h9 => ?_)
  exact A3 h9 (Ba (A3 h9 (C9 (c := sb a.fClean) B1 (Cr rfl) rfl (A3 h9 (Ba (A3 h9 (C9 (c := sb b.fClean) B2 (Cr rfl) rfl (A3 h9 (H4 (v := sb (a.fClean == b.fClean)) (fun k => rfl) (Dw h9 (Ix q9 h9) rfl))))))))))
  exact A2 h9 (A2 h9 (A2 h9 (A2 h9 (A2 h9 (Dv h9 (Iw q9 h9) rfl)))))
  intro b9 q9
  apply B9 (b9 && (a.fKeep == b.fKeep))
  intro b10 q10
  refine Aa (b9) (fun h10 => ?_) (fun h10 => ?_)
  exact A3 h10 (Ba (A3 h10 (C9 (c := si a.fKeep) B1 (Cr rfl) rfl (A3 h10 (Ba (A3 h10 (C9 (c := si b.fKeep) B2 (Cr rfl) rfl (A3 h10 (Du (v := sb (a.fKeep == b.fKeep)) (fun k => rfl) (Dw h10 (Ix q10 h10) rfl))))))))))
  exact A2 h10 (A2 h10 (A2 h10 (A2 h10 (A2 h10 (Dv h10 (Iw q10 h10) rfl)))))
  intro b10 q10
  apply B9 (b10 && (a.fHasWill == b.fHasWill))
  intro b11 q11
  refine Aa (b10) (fun h11 => ?_) (fun h11 => ?_)
  exact A3 h11 (Ba (A3 h11 (C9 (c := sb a.fHasWill) B1 (Cr rfl) rfl (A3 h11 (Ba (A3 h11 (C9 (c := sb b.fHasWill) B2 (Cr rfl) rfl (A3 h11 (H4 (v := sb (a.fHasWill == b.fHasWill)) (fun k => rfl) (Dw h11 (Ix q11 h11) rfl))))))))))
  exact A2 h11 (A2 h11 (A2 h11 (A2 h11 (A2 h11 (Dv h11 (Iw q11 h11) rfl)))))
  intro b11 q11
  apply B9 (b11 && (a.fWTopic.toList == b.fWTopic.toList))
  intro b12 q12
  refine Aa (b11) (fun h12 => ?_) (fun h12 => ?_)
  exact A3 h12 (Ba (A3 h12 (C9 (c := ss a.fWTopic) B1 (Cr rfl) rfl (A3 h12 (Ba (A3 h12 (C9 (c := ss b.fWTopic) B2 (Cr rfl) rfl (A3 h12 (Du (v := sb (a.fWTopic.toList == b.fWTopic.toList)) (fun k => rfl) (Dw h12 (Ix q12 h12) rfl))))))))))
  exact A2 h12 (A2 h12 (A2 h12 (A2 h12 (A2 h12 (Dv h12 (Iw q12 h12) rfl)))))
  intro b12 q12
  apply B9 (b12 && (a.fWBody.toList == b.fWBody.toList))
  intro b13 q13
  refine Aa (b12) (fun h13 => ?_) (fun h13 => ?_)
  exact A3 h13 (Ba (A3 h13 (C9 (c := Ai a.fWBody) B1 (Cr rfl) rfl (A3 h13 (Ba (A3 h13 (C9 (c := Ai b.fWBody) B2 (Cr rfl) rfl (A3 h13 (J4 rfl (Ep (I3 _ _ _) (Ep (I3 _ _ _) Jj)) (P4 (n + 0) _ a.fWBody b.fWBody) (Dw h13 (Ix q13 h13) rfl))))))))))
  exact A2 h13 (A2 h13 (A2 h13 (A2 h13 (A2 h13 (Dv h13 (Iw q13 h13) rfl)))))
  intro b13 q13
  apply B9 (b13 && (a.fWQos == b.fWQos))
  intro b14 q14
  refine Aa (b13) (fun h14 => ?_) (fun h14 => ?_)
  exact A3 h14 (Ba (A3 h14 (C9 (c := si a.fWQos) B1 (Cr rfl) rfl (A3 h14 (Ba (A3 h14 (C9 (c := si b.fWQos) B2 (Cr rfl) rfl (A3 h14 (Du (v := sb (a.fWQos == b.fWQos)) (fun k => rfl) (Dw h14 (Ix q14 h14) rfl))))))))))
  exact A2 h14 (A2 h14 (A2 h14 (A2 h14 (A2 h14 (Dv h14 (Iw q14 h14) rfl)))))
  intro b14 q14
  apply B9 (b14 && (a.fWRetain == b.fWRetain))
  intro b15 q15
  refine Aa (b14) (fun h15 => ?_) (fun h15 => ?_)
  exact A3 h15 (Ba (A3 h15 (C9 (c := sb a.fWRetain) B1 (Cr rfl) rfl (A3 h15 (Ba (A3 h15 (C9 (c := sb b.fWRetain) B2 (Cr rfl) rfl (A3 h15 (H4 (v := sb (a.fWRetain == b.fWRetain)) (fun k => rfl) (Dw h15 (Ix q15 h15) rfl))))))))))
  exact A2 h15 (A2 h15 (A2 h15 (A2 h15 (A2 h15 (Dv h15 (Iw q15 h15) rfl)))))
  intro b15 q15
  apply B9 (b15 && (a.fHasUser == b.fHasUser))
  intro b16 q16
  refine Aa (b15) (fun h16 => ?_) (fun h16 => ?_)
  exact A3 h16 (Ba (A3 h16 (C9 (c := sb a.fHasUser) B1 (Cr rfl) rfl (A3 h16 (Ba (A3 h16 (C9 (c := sb b.fHasUser) B2 (Cr rfl) rfl (A3 h16 (H4 (v := sb (a.fHasUser == b.fHasUser)) (fun k => rfl) (Dw h16 (Ix q16 h16) rfl))))))))))
  exact A2 h16 (A2 h16 (A2 h16 (A2 h16 (A2 h16 (Dv h16 (Iw q16 h16) rfl)))))
  intro b16 q16
  apply B9 (b16 && (a.fUser.toList == b.fUser.toList))
  intro b17 q17
  refine Aa (b16) (fun h17 => ?_) (fun h17 => ?_)
  exact A3 h17 (Ba (A3 h17 (C9 (c := ss a.fUser) B1 (Cr rfl) rfl (A3 h17 (Ba (A3 h17 (C9 (c := ss b.fUser) B2 (Cr rfl) rfl (A3 h17 (Du (v := sb (a.fUser.toList == b.fUser.toList)) (fun k => rfl) (Dw h17 (Ix q17 h17) rfl))))))))))
  exact A2 h17 (A2 h17 (A2 h17 (A2 h17 (A2 h17 (Dv h17 (Iw q17 h17) rfl)))))
  intro b17 q17
  apply B9 (b17 && (a.fHasPass == b.fHasPass))
  intro b18 q18
  refine Aa (b17) (fun h18 => ?_) (fun h18 => ?_)
  exact A3 h18 (Ba (A3 h18 (C9 (c := sb a.fHasPass) B1 (Cr rfl) rfl (A3 h18 (Ba (A3 h18 (C9 (c := sb b.fHasPass) B2 (Cr rfl) rfl (A3 h18 (H4 (v := sb (a.fHasPass == b.fHasPass)) (fun k => rfl) (Dw h18 (Ix q18 h18) rfl))))))))))
  exact A2 h18 (A2 h18 (A2 h18 (A2 h18 (A2 h18 (Dv h18 (Iw q18 h18) rfl)))))
  intro b18 q18
  apply B9 (b18 && (a.fPass.toList == b.fPass.toList))
  intro b19 q19
  refine Aa (b18) (fun h19 => ?_) (fun h19 => ?_)
  exact A3 h19 (Ba (A3 h19 (C9 (c := Ai a.fPass) B1 (Cr rfl) rfl (A3 h19 (Ba (A3 h19 (C9 (c := Ai b.fPass) B2 (Cr rfl) rfl (A3 h19 (J4 rfl (Ep (I3 _ _ _) (Ep (I3 _ _ _) Jj)) (P4 (n + 0) _ a.fPass b.fPass) (Dw h19 (Ix q19 h19) rfl))))))))))
  exact A2 h19 (A2 h19 (A2 h19 (A2 h19 (A2 h19 (Dv h19 (Iw q19 h19) rfl)))))
  intro b19 q19
  apply B9 (b19 && (a.fCode == b.fCode))
  intro b20 q20
  refine Aa (b19) (fun h20 => ?_) (fun h20 => ?_)
  exact A3 h20 (Ba (A3 h20 (C9 (c := si a.fCode) B1 (Cr rfl) rfl (A3 h20 (Ba (A3 h20 (C9 (c := si b.fCode) B2 (Cr rfl) rfl (A3 h20 (Du (v := sb (a.fCode == b.fCode)) (fun k => rfl) (Dw h20 (Ix q20 h20) rfl))))))))))
  exact A2 h20 (A2 h20 (A2 h20 (A2 h20 (A2 h20 (Dv h20 (Iw q20 h20) rfl)))))
  intro b20 q20
  apply B9 (b20 && (a.fPresent == b.fPresent))
  intro b21 q21
  refine Aa (b20) (fun h21 => ?_) (fun h21 => ?_)
  exact A3 h21 (Ba (A3 h21 (C9 (c := sb a.fPresent) B1 (Cr rfl) rfl (A3 h21 (Ba (A3 h21 (C9 (c := sb b.fPresent) B2 (Cr rfl) rfl (A3 h21 (H4 (v := sb (a.fPresent == b.fPresent)) (fun k => rfl) (Dw h21 (Ix q21 h21) rfl))))))))))
  exact A2 h21 (A2 h21 (A2 h21 (A2 h21 (A2 h21 (Dv h21 (Iw q21 h21) rfl)))))
  intro b21 q21
  subst_vars; rfl
 have key := Ku (β := AV) Sv (fun _ => rfl) (by decide) (fun z => si z) (fun p k => D1 false 1 p H k) (fun x r k => ldI x r H k) (fun x y k => En .neq x y k) Xj (fun x y k => neI x y k) a.fCodes b.fCodes hq2 hl2 (fun m i => Np (PR (n + 1) AV) (n + 1) (fun x H => Bm A4 E0.tp ty H x) m (.ptr i1 0) (.ptr i2 0) i H) (some bF) (some (sb (Gw a b))) hL a.fCodes b.fCodes [] [] (n + 1) rfl rfl rfl (by omega)
 simp only [zat, zaX] at key
 refine key.trans ?_
 cases Iz Xj a.fCodes b.fCodes <;> rfl
theorem Agc (n : Nat) (hn : 1048576 < n) (ty : Nat) (a b : PacketV) (H : Ae) (i1 i2 : Nat) (B1 : H[i1]? = some ⟨A0 a, true, true⟩) (B2 : H[i2]? = some ⟨A0 b, true, true⟩) (hl1 : a.fNames.length ≤ 1048576) (hq1 : a.fNames.length = b.fNames.length) (hl2 : a.fCodes.length ≤ 1048576) (hq2 : a.fCodes.length = b.fCodes.length) : Lk (PR (n + 1) AV) (n + 1) (fun x H => Bm A4 E0.tp ty H x) (n + 1) (.ptr i1 0) (.ptr i2 0) (.sc (.int .i64 0)) H = some (.sc (.bool (if Iz Qq a.fNames b.fNames then (if Iz Xj a.fCodes b.fCodes then (Gw a b) else false) else false))) := by
 have hL : ∀ m i, Lk (PR (n + 1) AV) (n + 1) (fun x H => Bm A4 E0.tp ty H x) (m + 1) (.ptr i1 0) (.ptr i2 0) i H = En .lss i (si a.fNames.length) fun t14 => Gn t14 (Fv 1 (Dk Sw a.fNames) i fun t19 => D1 false 1 t19 H fun t20 => Fv 1 (Dk Sw b.fNames) i fun t23 => D1 false 1 t23 H fun t24 => (fun x y k => En .neq x y k) t20 t24 fun t25 => Gn t25 (some bF) (En .add i (si 1) fun t16 => Lk (PR (n + 1) AV) (n + 1) (fun x H => Bm A4 E0.tp ty H x) m (.ptr i1 0) (.ptr i2 0) t16 H)) (some (sb (if Iz Xj a.fCodes b.fCodes then (Gw a b) else false))) := by
  intro m i
  show (PR (n + 1) AV).fadr 23 (.ptr i1 0) _ = _
  simp only [Bx, A9, A5, Ik, J5, Aw, Bg, Pr.gT, Pr.gF, Pr.hT, Pr.hF, Pr.kT, Pr.kF, Bv, B3, Bw]
  refine Ba (C9 (c := E3 a.fNames) B1 (Cr rfl) rfl (Me ?_))
  congr 1
  funext t
  congr 1
  refine Ba (C9 (c := E3 a.fNames) B1 (Cr rfl) rfl ?_)
  rw [Kp]
  congr 1
  funext t2
  congr 1
  funext t3
  refine Ba (C9 (c := E3 b.fNames) B2 (Cr rfl) rfl ?_)
  rw [Kp]
  rfl
  skip
  exact Agd n hn ty a b H i1 i2 B1 B2 hl2 hq2
 have key := Ku (β := AV) Sw (fun _ => rfl) (by decide) (fun z => ss z) (fun p k => D1 false 1 p H k) (fun x r k => ldS x r H k) (fun x y k => En .neq x y k) Qq (fun x y k => neS x y k) a.fNames b.fNames hq1 hl1 (fun m i => Lk (PR (n + 1) AV) (n + 1) (fun x H => Bm A4 E0.tp ty H x) m (.ptr i1 0) (.ptr i2 0) i H) (some bF) (some (sb (if Iz Xj a.fCodes b.fCodes then (Gw a b) else false))) hL a.fNames b.fNames [] [] (n + 1) rfl rfl rfl (by omega)
 simp only [zat, zaX] at key
 refine key.trans ?_
 cases Iz Qq a.fNames b.fNames <;> rfl
theorem Agb (n : Nat) (hn : 1048576 < n) (ty : Nat) (a b : PacketV) (H : Ae) (i1 i2 : Nat) (B1 : H[i1]? = some ⟨A0 a, true, true⟩) (B2 : H[i2]? = some ⟨A0 b, true, true⟩) (hl0 : a.fWants.length ≤ 1048576) (hq0 : a.fWants.length = b.fWants.length) (hl1 : a.fNames.length ≤ 1048576) (hq1 : a.fNames.length = b.fNames.length) (hl2 : a.fCodes.length ≤ 1048576) (hq2 : a.fCodes.length = b.fCodes.length) : Lj (PR (n + 1) AV) (n + 1) (fun x H => Bm A4 E0.tp ty H x) (n + 1) (.ptr i1 0) (.ptr i2 0) (.sc (.int .i64 0)) H = some (.sc (.bool (if Iz I9 a.fWants b.fWants then (if Iz Qq a.fNames b.fNames then (if Iz Xj a.fCodes b.fCodes then (Gw a b) else false) else false) else false))) := by
 have hL : ∀ m i, Lj (PR (n + 1) AV) (n + 1) (fun x H => Bm A4 E0.tp ty H x) (m + 1) (.ptr i1 0) (.ptr i2 0) i H = En .lss i (si a.fWants.length) fun t14 => Gn t14 (Fv 2 (Dk Cj a.fWants) i fun t19 => D1 true 2 t19 H fun t20 => Fv 2 (Dk Cj b.fWants) i fun t23 => D1 true 2 t23 H fun t24 => (fun x y k => Qc .neq [1, 0] x y k) t20 t24 fun t25 => Gn t25 (some bF) (En .add i (si 1) fun t16 => Lj (PR (n + 1) AV) (n + 1) (fun x H => Bm A4 E0.tp ty H x) m (.ptr i1 0) (.ptr i2 0) t16 H)) (some (sb (if Iz Qq a.fNames b.fNames then (if Iz Xj a.fCodes b.fCodes then (Gw a b) else false) else false))) := by
  intro m i
  show (PR (n + 1) AV).fadr 22 (.ptr i1 0) _ = _
  simp only [Bx, A9, A5, Ik, J5, Aw, Bg, Pr.gT, Pr.gF, Pr.hT, Pr.hF, Pr.kT, Pr.kF, Bv, B3, Bw]
  refine Ba (C9 (c := Dk Cj a.fWants) B1 (Cr rfl) rfl (Me ?_))
  congr 1
  funext t
  congr 1
  refine Ba (C9 (c := Dk Cj a.fWants) B1 (Cr rfl) rfl ?_)
  congr 1
  funext t2
  congr 1
  funext t3
  refine Ba (C9 (c := Dk Cj b.fWants) B2 (Cr rfl) rfl ?_)
  rfl
  skip
  exact Agc n hn ty a b H i1 i2 B1 B2 hl1 hq1 hl2 hq2
 have key := Ku (β := AV) Cj (G1) (by decide) (fun x => .agg (Cj x)) (fun p k => D1 true 2 p H k) (fun x r k => AdR 2 _ _ H k (G1 x)) (fun x y k => Qc .neq [1, 0] x y k) I9 (fun x y k => Aao _ _ _ _ (Uq x y) k) a.fWants b.fWants hq0 hl0 (fun m i => Lj (PR (n + 1) AV) (n + 1) (fun x H => Bm A4 E0.tp ty H x) m (.ptr i1 0) (.ptr i2 0) i H) (some bF) (some (sb (if Iz Qq a.fNames b.fNames then (if Iz Xj a.fCodes b.fCodes then (Gw a b) else false) else false))) hL a.fWants b.fWants [] [] (n + 1) rfl rfl rfl (by omega)
 simp only [zat, zaX] at key
 refine key.trans ?_
 cases Iz I9 a.fWants b.fWants <;> rfl
theorem Nb (n : Nat) (hn : 1048576 < n) (ty : Nat) (a : PacketV) (b : PacketV) (hl0 : a.fWants.length ≤ 1048576) (hl1 : a.fNames.length ≤ 1048576) (hl2 : a.fCodes.length ≤ 1048576) : Di E0 (n + 2) ty 89 [.agg (A0 a), .agg (A0 b)] = some (.sc (.bool (Cx a b))) := by
 rw [Be, AhA, f89]
 try simp only [Fx, Fk, Bx, A9, Dz, A5, Ik, J5, D8, Aw, Bg, Pr.gT, Pr.gF, Pr.hT, Pr.hF, Pr.kT, Pr.kF, Bv, B3, Gr, Bw, Mi, G4, Ii, Cz, C2, N9, D3, Dm, Gg]
 refine AaQ (Dg _) fun iB1 eB1 B1 => AaQ (Dg _) fun iB2 eB2 B2 => ?_
 replace B1 := Kr B1 [⟨A0 b, true, true⟩]
 refine Ba (C9 (c := Dk Cj a.fWants) B1 (Cr rfl) rfl (Me (Ba (C9 (c := Dk Cj b.fWants) B2 (Cr rfl) rfl (Me (Du (v := sb ((a.fWants.length : Int) != (b.fWants.length : Int))) (fun k => rfl) ?_))))))
 apply B9 (((a.fWants.length : Int) != (b.fWants.length : Int)) || ((a.fNames.length : Int) != (b.fNames.length : Int)))
 intro b3 q3
 refine Aa (((a.fWants.length : Int) != (b.fWants.length : Int))) (fun h3 => ?_) (fun h3 => ?_)
 exact I1 h3 (I1 h3 (I1 h3 (I1 h3 (I1 h3 (I1 h3 (I1 h3 (Dw h3 (mOT q3 h3) rfl)))))))
 exact H8 h3 (Ba (H8 h3 (C9 (c := E3 a.fNames) B1 (Cr rfl) rfl (H8 h3 (Me (H8 h3 (Ba (H8 h3 (C9 (c := E3 b.fNames) B2 (Cr rfl) rfl (H8 h3 (Me (H8 h3 (Du (v := sb ((a.fNames.length : Int) != (b.fNames.length : Int))) (fun k => rfl) (Dv h3 (mOF q3 h3) rfl))))))))))))))
 intro b3 q3
 apply B9 (b3 || ((a.fCodes.length : Int) != (b.fCodes.length : Int)))
 intro b4 q4
 refine Aa (b3) (fun h4 => ?_) (fun h4 => ?_)
 exact I1 h4 (I1 h4 (I1 h4 (I1 h4 (I1 h4 (I1 h4 (I1 h4 (Dw h4 (mOT q4 h4) rfl)))))))
 exact H8 h4 (Ba (H8 h4 (C9 (c := E1 a.fCodes) B1 (Cr rfl) rfl (H8 h4 (Me (H8 h4 (Ba (H8 h4 (C9 (c := E1 b.fCodes) B2 (Cr rfl) rfl (H8 h4 (Me (H8 h4 (Du (v := sb ((a.fCodes.length : Int) != (b.fCodes.length : Int))) (fun k => rfl) (Dv h4 (mOF q4 h4) rfl))))))))))))))
 intro b4 q4
 refine Aa (b4) (fun h5 => ?_) (fun h5 => ?_)
 exact Ot h5 (Ug (by subst_vars; simp only [Cx, K3, Gz]; by_cases e0 : a.fWants.length = b.fWants.length <;> by_cases e1 : a.fNames.length = b.fNames.length <;> by_cases e2 : a.fCodes.length = b.fCodes.length <;> simp_all))
 refine Ra h5 ?_
 have l0 : a.fWants.length = b.fWants.length := by (subst_vars; simp at *; omega)
 have l1 : a.fNames.length = b.fNames.length := by (subst_vars; simp at *; omega)
 have l2 : a.fCodes.length = b.fCodes.length := by (subst_vars; simp at *; omega)
 refine (Agb n hn ty a b _ _ _ B1 B2 hl0 l0 hl1 l1 hl2 l2).trans ?_
 simp only [Cx, K3, Gz, l0, l1, l2, if_true]
 cases Iz I9 a.fWants b.fWants <;> cases Iz Qq a.fNames b.fNames <;> cases Iz Xj a.fCodes b.fCodes <;> simp
theorem M8 (n : Nat) (hn : 1048576 < n) (ty : Nat) (a : PacketV) (b : PacketV) (hl0 : a.fWants.length ≤ 1048576) (hl1 : a.fNames.length ≤ 1048576) (hl2 : a.fCodes.length ≤ 1048576) : Di E0 (n + 2) ty 104 [.agg (A0 a), .agg (A0 b)] = some (.sc (.bool (Cx a b))) := by
 rw [Be, AeO, f104]
 try simp only [Fx, Fk, Bx, A9, Dz, A5, Ik, J5, D8, Aw, Bg, Pr.gT, Pr.gF, Pr.hT, Pr.hF, Pr.kT, Pr.kF, Bv, B3, Gr, Bw, Mi, G4, Ii, Cz, C2, N9, D3, Dm, Gg]
 refine AaQ (Dg _) fun iB1 eB1 B1 => AaQ (Dg _) fun iB2 eB2 B2 => ?_
 replace B1 := Kr B1 [⟨A0 b, true, true⟩]
 refine Ba (C9 (c := si a.fType) B1 (Cr rfl) rfl (Ba (C9 (c := si b.fType) B2 (Cr rfl) rfl (Du (v := sb (a.fType == b.fType)) (fun k => rfl) ?_))))
 apply B9 ((a.fType == b.fType) && (a.fDup == b.fDup))
 intro b3 q3
 refine Aa ((a.fType == b.fType)) (fun h3 => ?_) (fun h3 => ?_)
 exact A3 h3 (Ba (A3 h3 (C9 (c := sb a.fDup) B1 (Cr rfl) rfl (A3 h3 (Ba (A3 h3 (C9 (c := sb b.fDup) B2 (Cr rfl) rfl (A3 h3 (H4 (v := sb (a.fDup == b.fDup)) (fun k => rfl) (Dw h3 (Ix q3 h3) rfl))))))))))
 exact A2 h3 (A2 h3 (A2 h3 (A2 h3 (A2 h3 (Dv h3 (Iw q3 h3) rfl)))))
 intro b3 q3
 apply B9 (b3 && (a.fQos == b.fQos))
 intro b4 q4
 refine Aa (b3) (fun h4 => ?_) (fun h4 => ?_)
 exact A3 h4 (Ba (A3 h4 (C9 (c := si a.fQos) B1 (Cr rfl) rfl (A3 h4 (Ba (A3 h4 (C9 (c := si b.fQos) B2 (Cr rfl) rfl (A3 h4 (Du (v := sb (a.fQos == b.fQos)) (fun k => rfl) (Dw h4 (Ix q4 h4) rfl))))))))))
 exact A2 h4 (A2 h4 (A2 h4 (A2 h4 (A2 h4 (Dv h4 (Iw q4 h4) rfl)))))
 intro b4 q4
 apply B9 (b4 && (a.fRetain == b.fRetain))
 intro b5 q5
 refine Aa (b4) (fun h5 => ?_) (fun h5 => ?_)
 exact A3 h5 (Ba (A3 h5 (C9 (c := sb a.fRetain) B1 (Cr rfl) rfl (A3 h5 (Ba (A3 h5 (C9 (c := sb b.fRetain) B2 (Cr rfl) rfl (A3 h5 (H4 (v := sb (a.fRetain == b.fRetain)) (fun k => rfl) (Dw h5 (Ix q5 h5) rfl))))))))))
 exact A2 h5 (A2 h5 (A2 h5 (A2 h5 (A2 h5 (Dv h5 (Iw q5 h5) rfl)))))
 intro b5 q5
 apply B9 (b5 && (a.fId == b.fId))
 intro b6 q6
 refine Aa (b5) (fun h6 => ?_) (fun h6 => ?_)
 exact A3 h6 (Ba (A3 h6 (C9 (c := si a.fId) B1 (Cr rfl) rfl (A3 h6 (Ba (A3 h6 (C9 (c := si b.fId) B2 (Cr rfl) rfl (A3 h6 (Du (v := sb (a.fId == b.fId)) (fun k => rfl) (Dw h6 (Ix q6 h6) rfl))))))))))
 exact A2 h6 (A2 h6 (A2 h6 (A2 h6 (A2 h6 (Dv h6 (Iw q6 h6) rfl)))))
 intro b6 q6
 apply B9 (b6 && (a.fTopic.toList == b.fTopic.toList))
 intro b7 q7
 refine Aa (b6) (fun h7 => ?_) (fun h7 => ?_)
 exact A3 h7 (Ba (A3 h7 (C9 (c := ss a.fTopic) B1 (Cr rfl) rfl (A3 h7 (Ba (A3 h7 (C9 (c := ss b.fTopic) B2 (Cr rfl) rfl (A3 h7 (Du (v := sb (a.fTopic.toList == b.fTopic.toList)) (fun k => rfl) (Dw h7 (Ix q7 h7) rfl))))))))))
 exact A2 h7 (A2 h7 (A2 h7 (A2 h7 (A2 h7 (Dv h7 (Iw q7 h7) rfl)))))
 intro b7 q7
 apply B9 (b7 && (a.fBody.toList == b.fBody.toList))
 intro b8 q8
 refine Aa (b7) (fun h8 => ?_) (fun h8 => ?_)
 exact A3 h8 (Ba (A3 h8 (C9 (c := Ai a.fBody) B1 (Cr rfl) rfl (A3 h8 (Ba (A3 h8 (C9 (c := Ai b.fBody) B2 (Cr rfl) rfl (A3 h8 (J4 rfl (Ep (I3 _ _ _) (Ep (I3 _ _ _) Jj)) (Jo (n + 0) _ a.fBody b.fBody) (Dw h8 (Ix q8 h8) rfl))))))))))
 exact A2 h8 (A2 h8 (A2 h8 (A2 h8 (A2 h8 (Dv h8 (Iw q8 h8) rfl)))))
 intro b8 q8
 refine Ba (C9 (c := ss a.fClient) B1 (Cr rfl) rfl (Ba (C9 (c := ss b.fClient) B2 (Cr rfl) rfl (Du (v := sb (a.fClient.toList == b.fClient.toList)) (fun k => rfl) ?_))))
 apply B9 ((a.fClient.toList == b.fClient.toList) && (a.fLevel == b.fLevel))
 intro b9 q9
 refine Aa ((a.fClient.toList == b.fClient.toList)) (fun h9 => ?_) (fun h9 => ?_)
 exact A3 h9 (Ba (A3 h9 (C9 (c := si a.fLevel) B1 (Cr rfl) rfl (A3 h9 (Ba (A3 h9 (C9 (c := si b.fLevel) B2 (Cr rfl) rfl (A3 h9 (Du (v := sb (a.fLevel == b.fLevel)) (fun k => rfl) (Dw h9 (Ix q9 h9) rfl))))))))))
 exact A2 h9 (A2 h9 (A2 h9 (A2 h9 (A2 h9 (Dv h9 (Iw q9 h9) rfl)))))
 intro b9 q9
 apply B9 (b9 && (a.fClean == b.fClean))
 intro b10 q10
 refine Aa (b9) (fun h10 => ?_) (fun h10 => ?_)
 exact A3 h10 (Ba (A3 h10 (C9 (c := sb a.fClean) B1 (Cr rfl) rfl (A3 h10 (Ba (A3 h10 (C9 (c := sb b.fClean) B2 (Cr rfl) rfl (A3 h10 (H4 (v := sb (a.fClean == b.fClean)) (fun k => rfl) (Dw h10 (Ix q10 h10) rfl))))))))))
 exact A2 h10 (A2 h10 (A2 h10 (A2 h10 (A2 h10 (Dv h10 (Iw q10 h10) rfl)))))
 intro b10 q10
 apply B9 (b10 && (a.fKeep == b.fKeep))
 intro b11 q11
 refine Aa (b10) (fun h11 => ?_) (fun h11 => ?_)
 exact A3 h11 (Ba (A3 h11 (C9 (c := si a.fKeep) B1 (Cr rfl) rfl (A3 h11 (Ba (A3 h11 (C9 (c := si b.fKeep) B2 (Cr rfl) rfl (A3 h11 (Du (v := sb (a.fKeep == b.fKeep)) (fun k => rfl) (Dw h11 (Ix q11 h11) rfl))))))))))
 exact A2 h11 (A2 h11 (A2 h11 (A2 h11 (A2 h11 (Dv h11 (Iw q11 h11) rfl)))))
 intro b11 q11
 apply B9 (b11 && (a.fHasUser == b.fHasUser))
 intro b12 q12
 refine Aa (b11) (fun h12 => ?_) (fun h12 => ?_)
 exact A3 h12 (Ba (A3 h12 (C9 (c := sb a.fHasUser) B1 (Cr rfl) rfl (A3 h12 (Ba (A3 h12 (C9 (c := sb b.fHasUser) B2 (Cr rfl) rfl (A3 h12 (H4 (v := sb (a.fHasUser == b.fHasUser)) (fun k => rfl) (Dw h12 (Ix q12 h12) rfl))))))))))
 exact A2 h12 (A2 h12 (A2 h12 (A2 h12 (A2 h12 (Dv h12 (Iw q12 h12) rfl)))))
 intro b12 q12
 apply B9 (b12 && (a.fUser.toList == b.fUser.toList))
 intro b13 q13
 refine Aa (b12) (fun h13 => ?_) (fun h13 => ?_)
 exact A3 h13 (Ba (A3 h13 (C9 (c := ss a.fUser) B1 (Cr rfl) rfl (A3 h13 (Ba (A3 h13 (C9 (c := ss b.fUser) B2 (Cr rfl) rfl (A3 h13 (Du (v := sb (a.fUser.toList == b.fUser.toList)) (fun k => rfl) (Dw h13 (Ix q13 h13) rfl))))))))))
 exact A2 h13 (A2 h13 (A2 h13 (A2 h13 (A2 h13 (Dv h13 (Iw q13 h13) rfl)))))
 intro b13 q13
 apply B9 (b13 && (a.fHasPass == b.fHasPass))
 intro b14 q14
 refine Aa (b13) (fun h14 => ?_) (fun h14 => ?_)
 exact A3 h14 (Ba (A3 h14 (C9 (c := sb a.fHasPass) B1 (Cr rfl) rfl (A3 h14 (Ba (A3 h14 (C9 (c := sb b.fHasPass) B2 (Cr rfl) rfl (A3 h14 (H4 (v := sb (a.fHasPass == b.fHasPass)) (fun k => rfl) (Dw h14 (Ix q14 h14) rfl))))))))))
 exact A2 h14 (A2 h14 (A2 h14 (A2 h14 (A2 h14 (Dv h14 (Iw q14 h14) rfl)))))
 intro b14 q14
 apply B9 (b14 && (a.fPass.toList == b.fPass.toList))
 intro b15 q15
 refine Aa (b14) (fun h15 => ?_) (fun h15 => ?_)
 exact A3 h15 (Ba (A3 h15 (C9 (c := Ai a.fPass) B1 (Cr rfl) rfl (A3 h15 (Ba (A3 h15 (C9 (c := Ai b.fPass) B2 (Cr rfl) rfl (A3 h15 (J4 rfl (Ep (I3 _ _ _) (Ep (I3 _ _ _) Jj)) (Jo (n + 0) _ a.fPass b.fPass) (Dw h15 (Ix q15 h15) rfl))))))))))
 exact A2 h15 (A2 h15 (A2 h15 (A2 h15 (A2 h15 (Dv h15 (Iw q15 h15) rfl)))))
 intro b15 q15
 refine Ba (C9 (c := sb a.fHasWill) B1 (Cr rfl) rfl (Ba (C9 (c := sb b.fHasWill) B2 (Cr rfl) rfl (H4 (v := sb (a.fHasWill == b.fHasWill)) (fun k => rfl) ?_))))
 apply B9 ((a.fHasWill == b.fHasWill) && (a.fWTopic.toList == b.fWTopic.toList))
 intro b16 q16
 refine Aa ((a.fHasWill == b.fHasWill)) (fun h16 => ?_) (fun h16 => ?_)
 exact A3 h16 (Ba (A3 h16 (C9 (c := ss a.fWTopic) B1 (Cr rfl) rfl (A3 h16 (Ba (A3 h16 (C9 (c := ss b.fWTopic) B2 (Cr rfl) rfl (A3 h16 (Du (v := sb (a.fWTopic.toList == b.fWTopic.toList)) (fun k => rfl) (Dw h16 (Ix q16 h16) rfl))))))))))
 exact A2 h16 (A2 h16 (A2 h16 (A2 h16 (A2 h16 (Dv h16 (Iw q16 h16) rfl)))))
 intro b16 q16
 apply B9 (b16 && (a.fWBody.toList == b.fWBody.toList))
 intro b17 q17
 refine Aa (b16) (fun h17 => ?_) (fun h17 => ?_)
 exact A3 h17 (Ba (A3 h17 (C9 (c := Ai a.fWBody) B1 (Cr rfl) rfl (A3 h17 (Ba (A3 h17 (C9 (c := Ai b.fWBody) B2 (Cr rfl) rfl (A3 h17 (J4 rfl (Ep (I3 _ _ _) (Ep (I3 _ _ _) Jj)) (Jo (n + 0) _ a.fWBody b.fWBody) (Dw h17 (Ix q17 h17) rfl))))))))))
 exact A2 h17 (A2 h17 (A2 h17 (A2 h17 (A2 h17 (Dv h17 (Iw q17 h17) rfl)))))
 intro b17 q17
 apply B9 (b17 && (a.fWQos == b.fWQos))
 intro b18 q18
 refine Aa (b17) (fun h18 => ?_) (fun h18 => ?_)
 exact A3 h18 (Ba (A3 h18 (C9 (c := si a.fWQos) B1 (Cr rfl) rfl (A3 h18 (Ba (A3 h18 (C9 (c := si b.fWQos) B2 (Cr rfl) rfl (A3 h18 (Du (v := sb (a.fWQos == b.fWQos)) (fun k => rfl) (Dw h18 (Ix q18 h18) rfl))))))))))
 exact A2 h18 (A2 h18 (A2 h18 (A2 h18 (A2 h18 (Dv h18 (Iw q18 h18) rfl)))))
 intro b18 q18
 apply B9 (b18 && (a.fWRetain == b.fWRetain))
 intro b19 q19
 refine Aa (b18) (fun h19 => ?_) (fun h19 => ?_)
 exact A3 h19 (Ba (A3 h19 (C9 (c := sb a.fWRetain) B1 (Cr rfl) rfl (A3 h19 (Ba (A3 h19 (C9 (c := sb b.fWRetain) B2 (Cr rfl) rfl (A3 h19 (H4 (v := sb (a.fWRetain == b.fWRetain)) (fun k => rfl) (Dw h19 (Ix q19 h19) rfl))))))))))
 exact A2 h19 (A2 h19 (A2 h19 (A2 h19 (A2 h19 (Dv h19 (Iw q19 h19) rfl)))))
 intro b19 q19
 refine Ba (C9 (c := Dk Cj a.fWants) B1 (Cr rfl) rfl (Ba (C9 (c := Dk Cj b.fWants) B2 (Cr rfl) rfl (J4 rfl (Ep (I3 _ _ _) (Ep (I3 _ _ _) Jj)) (Za (n + 0) (by omega) _ a.fWants b.fWants (by omega)) ?_))))
 apply B9 ((Gz I9 a.fWants b.fWants) && (Gz Qq a.fNames b.fNames))
 intro b20 q20
 refine Aa ((Gz I9 a.fWants b.fWants)) (fun h20 => ?_) (fun h20 => ?_)
 exact A3 h20 (Ba (A3 h20 (C9 (c := E3 a.fNames) B1 (Cr rfl) rfl (A3 h20 (Ba (A3 h20 (C9 (c := E3 b.fNames) B2 (Cr rfl) rfl (A3 h20 (J4 rfl (Ep (I3 _ _ _) (Ep (I3 _ _ _) Jj)) (Abh (n + 0) (by omega) _ a.fNames b.fNames (by omega)) (Dw h20 (Ix q20 h20) rfl))))))))))
 exact A2 h20 (A2 h20 (A2 h20 (A2 h20 (A2 h20 (Dv h20 (Iw q20 h20) rfl)))))
 intro b20 q20
 apply B9 (b20 && (Gz Xj a.fCodes b.fCodes))
 intro b21 q21
 refine Aa (b20) (fun h21 => ?_) (fun h21 => ?_)
 exact A3 h21 (Ba (A3 h21 (C9 (c := E1 a.fCodes) B1 (Cr rfl) rfl (A3 h21 (Ba (A3 h21 (C9 (c := E1 b.fCodes) B2 (Cr rfl) rfl (A3 h21 (J4 rfl (Ep (I3 _ _ _) (Ep (I3 _ _ _) Jj)) (Abg (n + 0) (by omega) _ a.fCodes b.fCodes (by omega)) (Dw h21 (Ix q21 h21) rfl))))))))))
 exact A2 h21 (A2 h21 (A2 h21 (A2 h21 (A2 h21 (Dv h21 (Iw q21 h21) rfl)))))
 intro b21 q21
 apply B9 (b8 && b15)
 intro b22 q22
 refine Aa (b8) (fun h22 => ?_) (fun h22 => ?_)
 exact A3 h22 (Dw h22 (Ix q22 h22) rfl)
 exact A2 h22 (Dv h22 (Iw q22 h22) rfl)
 intro b22 q22
 apply B9 (b22 && b19)
 intro b23 q23
 refine Aa (b22) (fun h23 => ?_) (fun h23 => ?_)
 exact A3 h23 (Dw h23 (Ix q23 h23) rfl)
 exact A2 h23 (Dv h23 (Iw q23 h23) rfl)
 intro b23 q23
 apply B9 (b23 && b21)
 intro b24 q24
 refine Aa (b23) (fun h24 => ?_) (fun h24 => ?_)
 exact A3 h24 (Dw h24 (Ix q24 h24) rfl)
 exact A2 h24 (Dv h24 (Iw q24 h24) rfl)
 intro b24 q24
 apply B9 (b24 && (a.fCode == b.fCode))
 intro b25 q25
 refine Aa (b24) (fun h25 => ?_) (fun h25 => ?_)
 exact A3 h25 (Ba (A3 h25 (C9 (c := si a.fCode) B1 (Cr rfl) rfl (A3 h25 (Ba (A3 h25 (C9 (c := si b.fCode) B2 (Cr rfl) rfl (A3 h25 (Du (v := sb (a.fCode == b.fCode)) (fun k => rfl) (Dw h25 (Ix q25 h25) rfl))))))))))
 exact A2 h25 (A2 h25 (A2 h25 (A2 h25 (A2 h25 (Dv h25 (Iw q25 h25) rfl)))))
 intro b25 q25
 apply B9 (b25 && (a.fPresent == b.fPresent))
 intro b26 q26
 refine Aa (b25) (fun h26 => ?_) (fun h26 => ?_)
 exact A3 h26 (Ba (A3 h26 (C9 (c := sb a.fPresent) B1 (Cr rfl) rfl (A3 h26 (Ba (A3 h26 (C9 (c := sb b.fPresent) B2 (Cr rfl) rfl (A3 h26 (H4 (v := sb (a.fPresent == b.fPresent)) (fun k => rfl) (Dw h26 (Ix q26 h26) rfl))))))))))
 exact A2 h26 (A2 h26 (A2 h26 (A2 h26 (A2 h26 (Dv h26 (Iw q26 h26) rfl)))))
 intro b26 q26
 exact Ug (by subst_vars; simp only [Cx, K3, Gw]; ac_rfl)
end
end Go.Proofs.YtlcpigdmekgajaaGreatDoor.Abs
set_option maxHeartbeats 32000000
namespace Go.Proofs.YtlcpigdmekgajaaGreatDoor.Abs
open _root_.Bool renaming false_eq_true → zaa, and_eq_true → zaf, not_true → zav, true_and → za1, eq_iff_iff → zb6
open _root_.Option renaming bind_eq_some_iff → zab, bind_some → zad, bind_eq_bind → zaM, getD_some → zaO, pure_def → zbc
open _root_.ByteArray renaming data_push → zbC
open _root_.List renaming getElem?_eq_some_iff → zae, length_append → zag, append_assoc → zah, getElem?_append_right → zai, replicate → zaj, nil_append → zak, getElem?_append_left → zal, length_singleton → zan, append_nil → zao, all_cons → zap, map_cons → zaq, length_cons → zar, length_nil → zat, mem_cons_of_mem → zay, mem_cons_self → zaz, cons_append → za0, map_append → za2, flatten_cons → za6, all_eq_true → za8, drop_eq_getElem_cons → zaA, map_nil → zaD, mem_append_left → zaF, mapM_cons → zaG, take_length → zaJ, mem_append_right → zaK, mem_append → zaR, drop_zero → zaS, take_of_length_le → zaV, drop_append_of_le_length → zaW, nodup_append → zba, getElem?_drop → zbb, drop_of_length_le → zbf, nodup_cons → zbh, length_map → zbi, mem_singleton → zbk, getElem?_cons_zero → zbl, length_eq_one_iff → zbp, getD_eq_getElem?_getD → zbq, getElem?_take_of_lt → zbw, replicate_succ → zb0, flatten_append → zb1, flatten_nil → zb2, Perm → zb7, any_cons → zb8, getElem?_set_ne → zb9, drop_drop → zbA, drop_length → zbB, mem_map → zbF, map_map → zbG
open _root_.Nat renaming le_refl → zam, zero_add → za3, le_trans → zaB, add_assoc → zaL, sub_self → zaP, add_zero → zaZ, mul_one → zbt, add_comm → zbE
open _root_.Array renaming ext' → zbe
open _root_.Int renaming natCast_zero → zaX, toNat_natCast → zbz
section
open Go
def Bj (t : Int) : PacketV := ⟨t, false, 0, false, 0, ⟨#[]⟩, ⟨#[]⟩, ⟨#[]⟩, 0, false, 0, false, ⟨#[]⟩, ⟨#[]⟩, 0, false, false, ⟨#[]⟩, false, ⟨#[]⟩, 0, false, [], [], []⟩
def Ea (p q : PacketV) : PacketV := if p.fHasWill then { q with fHasWill := true, fWTopic := p.fWTopic, fWBody := p.fWBody, fWQos := p.fWQos, fWRetain := p.fWRetain } else q
def D9 (p q : PacketV) : PacketV := if p.fHasUser then (if p.fHasPass then { q with fHasUser := true, fUser := p.fUser, fHasPass := true, fPass := p.fPass } else { q with fHasUser := true, fUser := p.fUser }) else q
def Az (pc : Bool) (p : PacketV) : PacketV :=
 if p.fType = 1 then D9 p (Ea p { Bj p.fType with fClient := p.fClient, fLevel := p.fLevel, fClean := p.fClean, fKeep := p.fKeep })
 else if p.fType = 2 then { Bj p.fType with fCode := p.fCode, fPresent := p.fPresent && (!pc || decide (p.fCode = 0)) }
 else if p.fType = 3 then (if 0 < p.fQos then { Bj p.fType with fQos := p.fQos, fRetain := p.fRetain, fTopic := p.fTopic, fBody := p.fBody, fDup := p.fDup, fId := p.fId } else { Bj p.fType with fQos := p.fQos, fRetain := p.fRetain, fTopic := p.fTopic, fBody := p.fBody })
 else if p.fType = 4 ∨ p.fType = 5 ∨ p.fType = 6 ∨ p.fType = 7 ∨ p.fType = 11 then { Bj p.fType with fId := p.fId }
 else if p.fType = 8 then { Bj p.fType with fId := p.fId, fWants := p.fWants }
 else if p.fType = 9 then { Bj p.fType with fId := p.fId, fCodes := p.fCodes }
 else if p.fType = 10 then { Bj p.fType with fId := p.fId, fNames := p.fNames }
 else Bj p.fType
theorem S8 (n : Nat) (hn : 1048576 < n) (p : PacketV) {β : Type} {G : Option β → Prop} {KH : KO β} {H : Ae} {L : List Ck} (s0 : Sep H (L)) (hk : ∀ raw H', (∀ L', VwL L' 7 raw (A0 (Az false p))) → Sep H' L → Gd G (KH (.agg raw) H')) : Gd G (Ff E0 (n + 1) β 105 [.agg (A0 p)] H fun x H => KH x H) := by
 rw [AeP, f105]
 try simp only [Fx, Fk, Bx, A9, Dz, A5, Aw, C2, Acr, Ae7]
 refine Lg s0 (F4 (Dg _)) fun i1 H s2 => Hw s2 fun i3 H s4 => Ab (o' := 0) rfl (Aq (c := si p.fType) s4 C6 rfl (Bh (cs := [si p.fType, bF, i0, bF, i0, sE, .nl, sE, i0, bF, i0, bF, sE, .nl, i0, bF, bF, sE, bF, .nl, i0, bF, .nl, .nl, .nl]) rfl (Hw s4 fun i5 H s6 => Cm (cs' := [si p.fType, bF, i0, bF, i0, sE, .nl, sE, i0, bF, i0, bF, sE, .nl, i0, bF, bF, sE, bF, .nl, i0, bF, .nl, .nl, .nl]) s6 (.here) (Am rfl) rfl (Cr rfl) rfl fun H s7 => Ab (o' := 0) rfl (Aq (c := si p.fType) s7 Do rfl (Bd (Aa ((decide (p.fType = 1))) (fun h8 => ?_) (fun h8 => ?_)))))))
 refine Au h8 (Ab (o' := 7) rfl (Aq (c := ss p.fClient) s7 Do rfl (Ab (o' := 8) rfl (Ab (o' := 9) rfl (Ab (o' := 10) rfl (Ab (o' := 11) rfl (Ab (o' := 16) rfl (Ab (o' := 7) rfl (F7 s7 Do (Wx (.here)) (Aq (c := si p.fLevel) s7 Do rfl (F7 s7 Do (Wx (.here)) (Aq (c := sb p.fClean) s7 Do rfl (F7 s7 Do (Wx (.here)) (Aq (c := si p.fKeep) s7 Do rfl (F7 s7 Do (Wx (.here)) (Aq (c := sb p.fHasWill) s7 Do rfl (F7 s7 Do (Wx (.here)) (Aq (c := sb p.fHasUser) s7 Do rfl (He (A8 s7 (.here) rfl rfl fun H s9 => Ab (o' := 8) rfl (He (A8 s9 (.here) rfl rfl fun H s10 => Ab (o' := 9) rfl (He (A8 s10 (.here) rfl rfl fun H s11 => Ab (o' := 10) rfl (He (A8 s11 (.here) rfl rfl fun H s12 => Ab (o' := 11) rfl (He (A8 s12 (.here) rfl rfl fun H s13 => Ab (o' := 16) rfl (A8 s13 (.here) rfl rfl fun H s14 => Ab (o' := 11) rfl (Aq (c := sb p.fHasWill) s14 Do rfl (Dn (Aa (p.fHasWill) (fun h15 => ?_) (fun h15 => ?_)))))))))))))))))))))))))))))))))
 refine Au h15 (Ab (o' := 12) rfl (Aq (c := ss p.fWTopic) s14 Do rfl (Ab (o' := 13) rfl (Ab (o' := 14) rfl (Ab (o' := 15) rfl (Ab (o' := 12) rfl (F7 s14 Do (Wx (.here)) (Aq (c := Ai p.fWBody) s14 Do rfl (F7 s14 Do (Wx (.here)) (Aq (c := si p.fWQos) s14 Do rfl (F7 s14 Do (Wx (.here)) (Aq (c := sb p.fWRetain) s14 Do rfl (He (A8 s14 (.here) rfl rfl fun H s16 => Ab (o' := 13) rfl (He (A8 s16 (.here) rfl rfl fun H s17 => Ab (o' := 14) rfl (He (A8 s17 (.here) rfl rfl fun H s18 => Ab (o' := 15) rfl (A8 s18 (.here) rfl rfl fun H s19 => Ab (o' := 16) rfl (Aq (c := sb p.fHasUser) s19 Do rfl (Dn (Aa (p.fHasUser) (fun h20 => ?_) (fun h20 => ?_)))))))))))))))))))))))
 refine Au h20 (Ab (o' := 17) rfl (Aq (c := ss p.fUser) s19 Do rfl (Ab (o' := 18) rfl (Ab (o' := 17) rfl (F7 s19 Do (Wx (.here)) (Aq (c := sb p.fHasPass) s19 Do rfl (He (A8 s19 (.here) rfl rfl fun H s21 => Ab (o' := 18) rfl (A8 s21 (.here) rfl rfl fun H s22 => Ab (o' := 18) rfl (Aq (c := sb p.fHasPass) s22 (.here) rfl (Aa (p.fHasPass) (fun h23 => ?_) (fun h23 => ?_))))))))))))
 refine Au h23 (Ab (o' := 19) rfl (Aq (c := Ai p.fPass) s22 Do rfl (Ab (o' := 19) rfl (A8 s22 (.here) rfl rfl fun H s24 => Av s24 (.here) rfl (Cm (cs' := [si p.fType, bF, i0, bF, i0, sE, .nl, ss p.fClient, si p.fLevel, sb p.fClean, si p.fKeep, sb p.fHasWill, ss p.fWTopic, Ai p.fWBody, si p.fWQos, sb p.fWRetain, sb p.fHasUser, ss p.fUser, sb p.fHasPass, Ai p.fPass, i0, bF, .nl, .nl, .nl]) s24 C6 (Am rfl) rfl (Cr rfl) rfl fun H s25 => Av s25 (.here) rfl ?_)))))
 have e : Az false p = (⟨p.fType, false, 0, false, 0, ⟨#[]⟩, ⟨#[]⟩, p.fClient, p.fLevel, p.fClean, p.fKeep, p.fHasWill, p.fWTopic, p.fWBody, p.fWQos, p.fWRetain, p.fHasUser, p.fUser, p.fHasPass, p.fPass, 0, false, [], [], []⟩ : PacketV) := by
  simp only [Cs] at h8 h15 h20 h23
  simp [Az, Ea, D9, Bj, h8, h15, h20, h23]
 rw [e] at hk
 exact hk _ _ (fun L' => (Ge (.cons .nl (Ge (.cons .ro (K7 (.cons .ro (H5 (.cons .nl (.cons .nl (.cons .nl .nil))))))))))) s25.tail.tail.tail
 refine Ax h23 (Av s22 (.here) rfl (Cm (cs' := [si p.fType, bF, i0, bF, i0, sE, .nl, ss p.fClient, si p.fLevel, sb p.fClean, si p.fKeep, sb p.fHasWill, ss p.fWTopic, Ai p.fWBody, si p.fWQos, sb p.fWRetain, sb p.fHasUser, ss p.fUser, sb p.fHasPass, .nl, i0, bF, .nl, .nl, .nl]) s22 C6 (Am rfl) rfl (Cr rfl) rfl fun H s26 => Av s26 (.here) rfl ?_))
 have e : Az false p = (⟨p.fType, false, 0, false, 0, ⟨#[]⟩, ⟨#[]⟩, p.fClient, p.fLevel, p.fClean, p.fKeep, p.fHasWill, p.fWTopic, p.fWBody, p.fWQos, p.fWRetain, p.fHasUser, p.fUser, p.fHasPass, ⟨#[]⟩, 0, false, [], [], []⟩ : PacketV) := by
  simp only [Cs] at h8 h15 h20 h23
  simp [Az, Ea, D9, Bj, h8, h15, h20, h23]
 rw [e] at hk
 exact hk _ _ (fun L' => (Ge (.cons .nl (Ge (.cons .ro (K7 (.cons .nl (H5 (.cons .nl (.cons .nl (.cons .nl .nil))))))))))) s26.tail.tail.tail
 refine Ax h20 (Ab (o' := 18) rfl (Aq (c := bF) s19 (.here) rfl (Ax rfl (Av s19 (.here) rfl (Cm (cs' := [si p.fType, bF, i0, bF, i0, sE, .nl, ss p.fClient, si p.fLevel, sb p.fClean, si p.fKeep, sb p.fHasWill, ss p.fWTopic, Ai p.fWBody, si p.fWQos, sb p.fWRetain, sb p.fHasUser, sE, bF, .nl, i0, bF, .nl, .nl, .nl]) s19 C6 (Am rfl) rfl (Cr rfl) rfl fun H s27 => Av s27 (.here) rfl ?_)))))
 have e : Az false p = (⟨p.fType, false, 0, false, 0, ⟨#[]⟩, ⟨#[]⟩, p.fClient, p.fLevel, p.fClean, p.fKeep, p.fHasWill, p.fWTopic, p.fWBody, p.fWQos, p.fWRetain, p.fHasUser, ⟨#[]⟩, false, ⟨#[]⟩, 0, false, [], [], []⟩ : PacketV) := by
  simp only [Cs] at h8 h15 h20
  simp [Az, Ea, D9, Bj, h8, h15, h20]
 rw [e] at hk
 exact hk _ _ (fun L' => (Ge (.cons .nl (Ge (.cons .ro (K7 (.cons .nl (H5 (.cons .nl (.cons .nl (.cons .nl .nil))))))))))) s27.tail.tail.tail
 refine Ax h15 (Ab (o' := 16) rfl (Aq (c := sb p.fHasUser) s14 Do rfl (Dn (Aa (p.fHasUser) (fun h28 => ?_) (fun h28 => ?_)))))
 refine Au h28 (Ab (o' := 17) rfl (Aq (c := ss p.fUser) s14 Do rfl (Ab (o' := 18) rfl (Ab (o' := 17) rfl (F7 s14 Do (Wx (.here)) (Aq (c := sb p.fHasPass) s14 Do rfl (He (A8 s14 (.here) rfl rfl fun H s29 => Ab (o' := 18) rfl (A8 s29 (.here) rfl rfl fun H s30 => Ab (o' := 18) rfl (Aq (c := sb p.fHasPass) s30 (.here) rfl (Aa (p.fHasPass) (fun h31 => ?_) (fun h31 => ?_))))))))))))
 refine Au h31 (Ab (o' := 19) rfl (Aq (c := Ai p.fPass) s30 Do rfl (Ab (o' := 19) rfl (A8 s30 (.here) rfl rfl fun H s32 => Av s32 (.here) rfl (Cm (cs' := [si p.fType, bF, i0, bF, i0, sE, .nl, ss p.fClient, si p.fLevel, sb p.fClean, si p.fKeep, sb p.fHasWill, sE, .nl, i0, bF, sb p.fHasUser, ss p.fUser, sb p.fHasPass, Ai p.fPass, i0, bF, .nl, .nl, .nl]) s32 C6 (Am rfl) rfl (Cr rfl) rfl fun H s33 => Av s33 (.here) rfl ?_)))))
 have e : Az false p = (⟨p.fType, false, 0, false, 0, ⟨#[]⟩, ⟨#[]⟩, p.fClient, p.fLevel, p.fClean, p.fKeep, p.fHasWill, ⟨#[]⟩, ⟨#[]⟩, 0, false, p.fHasUser, p.fUser, p.fHasPass, p.fPass, 0, false, [], [], []⟩ : PacketV) := by
  simp only [Cs] at h8 h15 h28 h31
  simp [Az, Ea, D9, Bj, h8, h15, h28, h31]
 rw [e] at hk
 exact hk _ _ (fun L' => (Ge (.cons .nl (Ge (.cons .nl (K7 (.cons .ro (H5 (.cons .nl (.cons .nl (.cons .nl .nil))))))))))) s33.tail.tail.tail
 refine Ax h31 (Av s30 (.here) rfl (Cm (cs' := [si p.fType, bF, i0, bF, i0, sE, .nl, ss p.fClient, si p.fLevel, sb p.fClean, si p.fKeep, sb p.fHasWill, sE, .nl, i0, bF, sb p.fHasUser, ss p.fUser, sb p.fHasPass, .nl, i0, bF, .nl, .nl, .nl]) s30 C6 (Am rfl) rfl (Cr rfl) rfl fun H s34 => Av s34 (.here) rfl ?_))
 have e : Az false p = (⟨p.fType, false, 0, false, 0, ⟨#[]⟩, ⟨#[]⟩, p.fClient, p.fLevel, p.fClean, p.fKeep, p.fHasWill, ⟨#[]⟩, ⟨#[]⟩, 0, false, p.fHasUser, p.fUser, p.fHasPass, ⟨#[]⟩, 0, false, [], [], []⟩ : PacketV) := by
  simp only [Cs] at h8 h15 h28 h31
  simp [Az, Ea, D9, Bj, h8, h15, h28, h31]
 rw [e] at hk
 exact hk _ _ (fun L' => (Ge (.cons .nl (Ge (.cons .nl (K7 (.cons .nl (H5 (.cons .nl (.cons .nl (.cons .nl .nil))))))))))) s34.tail.tail.tail
 refine Ax h28 (Ab (o' := 18) rfl (Aq (c := bF) s14 (.here) rfl (Ax rfl (Av s14 (.here) rfl (Cm (cs' := [si p.fType, bF, i0, bF, i0, sE, .nl, ss p.fClient, si p.fLevel, sb p.fClean, si p.fKeep, sb p.fHasWill, sE, .nl, i0, bF, sb p.fHasUser, sE, bF, .nl, i0, bF, .nl, .nl, .nl]) s14 C6 (Am rfl) rfl (Cr rfl) rfl fun H s35 => Av s35 (.here) rfl ?_)))))
 have e : Az false p = (⟨p.fType, false, 0, false, 0, ⟨#[]⟩, ⟨#[]⟩, p.fClient, p.fLevel, p.fClean, p.fKeep, p.fHasWill, ⟨#[]⟩, ⟨#[]⟩, 0, false, p.fHasUser, ⟨#[]⟩, false, ⟨#[]⟩, 0, false, [], [], []⟩ : PacketV) := by
  simp only [Cs] at h8 h15 h28
  simp [Az, Ea, D9, Bj, h8, h15, h28]
 rw [e] at hk
 exact hk _ _ (fun L' => (Ge (.cons .nl (Ge (.cons .nl (K7 (.cons .nl (H5 (.cons .nl (.cons .nl (.cons .nl .nil))))))))))) s35.tail.tail.tail
 refine Ax h8 (Bd (Aa ((decide (p.fType = 2))) (fun h36 => ?_) (fun h36 => ?_)))
 refine Au h36 (Ab (o' := 20) rfl (Aq (c := si p.fCode) s7 Do rfl (Ab (o' := 21) rfl (Ab (o' := 20) rfl (F7 s7 Do (Wx (.here)) (Aq (c := sb p.fPresent) s7 Do rfl (He (A8 s7 (.here) rfl rfl fun H s37 => Ab (o' := 21) rfl (A8 s37 (.here) rfl rfl fun H s38 => Av s38 (.here) rfl (Cm (cs' := [si p.fType, bF, i0, bF, i0, sE, .nl, sE, i0, bF, i0, bF, sE, .nl, i0, bF, bF, sE, bF, .nl, si p.fCode, sb p.fPresent, .nl, .nl, .nl]) s38 C6 (Am rfl) rfl (Cr rfl) rfl fun H s39 => Av s39 (.here) rfl ?_))))))))))
 have e : Az false p = (⟨p.fType, false, 0, false, 0, ⟨#[]⟩, ⟨#[]⟩, ⟨#[]⟩, 0, false, 0, false, ⟨#[]⟩, ⟨#[]⟩, 0, false, false, ⟨#[]⟩, false, ⟨#[]⟩, p.fCode, p.fPresent, [], [], []⟩ : PacketV) := by
  simp only [Cs] at h8 h36
  simp [Az, Ea, D9, Bj, h8, h36]
 rw [e] at hk
 exact hk _ _ (fun L' => (Ge (.cons .nl (Ge (.cons .nl (K7 (.cons .nl (H5 (.cons .nl (.cons .nl (.cons .nl .nil))))))))))) s39.tail.tail.tail
 refine Ax h36 (Bd (Aa ((decide (p.fType = 3))) (fun h40 => ?_) (fun h40 => ?_)))
 refine Au h40 (Ab (o' := 2) rfl (Aq (c := si p.fQos) s7 Do rfl (Ab (o' := 3) rfl (Ab (o' := 5) rfl (Ab (o' := 6) rfl (Ab (o' := 2) rfl (F7 s7 Do (Wx (.here)) (Aq (c := sb p.fRetain) s7 Do rfl (F7 s7 Do (Wx (.here)) (Aq (c := ss p.fTopic) s7 Do rfl (F7 s7 Do (Wx (.here)) (Aq (c := Ai p.fBody) s7 Do rfl (He (A8 s7 (.here) rfl rfl fun H s41 => Ab (o' := 3) rfl (He (A8 s41 (.here) rfl rfl fun H s42 => Ab (o' := 5) rfl (He (A8 s42 (.here) rfl rfl fun H s43 => Ab (o' := 6) rfl (A8 s43 (.here) rfl rfl fun H s44 => Ab (o' := 2) rfl (Aq (c := si p.fQos) s44 Do rfl (Eo (Aa ((decide (0 < p.fQos))) (fun h45 => ?_) (fun h45 => ?_)))))))))))))))))))))))
 refine Au h45 (Ab (o' := 1) rfl (Aq (c := sb p.fDup) s44 Do rfl (Ab (o' := 4) rfl (Ab (o' := 1) rfl (F7 s44 Do (Wx (.here)) (Aq (c := si p.fId) s44 Do rfl (He (A8 s44 (.here) rfl rfl fun H s46 => Ab (o' := 4) rfl (A8 s46 (.here) rfl rfl fun H s47 => Av s47 (.here) rfl (Cm (cs' := [si p.fType, sb p.fDup, si p.fQos, sb p.fRetain, si p.fId, ss p.fTopic, Ai p.fBody, sE, i0, bF, i0, bF, sE, .nl, i0, bF, bF, sE, bF, .nl, i0, bF, .nl, .nl, .nl]) s47 C6 (Am rfl) rfl (Cr rfl) rfl fun H s48 => Av s48 (.here) rfl ?_))))))))))
 have e : Az false p = (⟨p.fType, p.fDup, p.fQos, p.fRetain, p.fId, p.fTopic, p.fBody, ⟨#[]⟩, 0, false, 0, false, ⟨#[]⟩, ⟨#[]⟩, 0, false, false, ⟨#[]⟩, false, ⟨#[]⟩, 0, false, [], [], []⟩ : PacketV) := by
  simp only [Cs] at h8 h36 h40 h45
  simp [Az, Ea, D9, Bj, h8, h36, h40, h45]
 rw [e] at hk
 exact hk _ _ (fun L' => (Ge (.cons .ro (Ge (.cons .nl (K7 (.cons .nl (H5 (.cons .nl (.cons .nl (.cons .nl .nil))))))))))) s48.tail.tail.tail
 refine Ax h45 (Av s44 (.here) rfl (Cm (cs' := [si p.fType, bF, si p.fQos, sb p.fRetain, i0, ss p.fTopic, Ai p.fBody, sE, i0, bF, i0, bF, sE, .nl, i0, bF, bF, sE, bF, .nl, i0, bF, .nl, .nl, .nl]) s44 C6 (Am rfl) rfl (Cr rfl) rfl fun H s49 => Av s49 (.here) rfl ?_))
 have e : Az false p = (⟨p.fType, false, p.fQos, p.fRetain, 0, p.fTopic, p.fBody, ⟨#[]⟩, 0, false, 0, false, ⟨#[]⟩, ⟨#[]⟩, 0, false, false, ⟨#[]⟩, false, ⟨#[]⟩, 0, false, [], [], []⟩ : PacketV) := by
  simp only [Cs] at h8 h36 h40 h45
  simp [Az, Ea, D9, Bj, h8, h36, h40, h45]
 rw [e] at hk
 exact hk _ _ (fun L' => (Ge (.cons .ro (Ge (.cons .nl (K7 (.cons .nl (H5 (.cons .nl (.cons .nl (.cons .nl .nil))))))))))) s49.tail.tail.tail
 refine Ax h40 (Bd (Dn (Aa ((decide (p.fType = 4))) (fun h50 => ?_) (fun h50 => ?_))))
 refine Au h50 (Au h50 (Ab (o' := 4) rfl (Aq (c := si p.fId) s7 Do rfl (Ab (o' := 4) rfl (A8 s7 (.here) rfl rfl fun H s51 => Av s51 (.here) rfl (Cm (cs' := [si p.fType, bF, i0, bF, si p.fId, sE, .nl, sE, i0, bF, i0, bF, sE, .nl, i0, bF, bF, sE, bF, .nl, i0, bF, .nl, .nl, .nl]) s51 C6 (Am rfl) rfl (Cr rfl) rfl fun H s52 => Av s52 (.here) rfl ?_))))))
 have e : Az false p = (⟨p.fType, false, 0, false, p.fId, ⟨#[]⟩, ⟨#[]⟩, ⟨#[]⟩, 0, false, 0, false, ⟨#[]⟩, ⟨#[]⟩, 0, false, false, ⟨#[]⟩, false, ⟨#[]⟩, 0, false, [], [], []⟩ : PacketV) := by
  simp only [Cs] at h8 h36 h40 h50
  simp [Az, Ea, D9, Bj, h8, h36, h40, h50]
 rw [e] at hk
 exact hk _ _ (fun L' => (Ge (.cons .nl (Ge (.cons .nl (K7 (.cons .nl (H5 (.cons .nl (.cons .nl (.cons .nl .nil))))))))))) s52.tail.tail.tail
 refine Ax h50 (Bd (Aa ((decide (p.fType = 5))) (fun h53 => ?_) (fun h53 => ?_)))
 refine Au h53 (Au h53 (Ab (o' := 4) rfl (Aq (c := si p.fId) s7 Do rfl (Ab (o' := 4) rfl (A8 s7 (.here) rfl rfl fun H s54 => Av s54 (.here) rfl (Cm (cs' := [si p.fType, bF, i0, bF, si p.fId, sE, .nl, sE, i0, bF, i0, bF, sE, .nl, i0, bF, bF, sE, bF, .nl, i0, bF, .nl, .nl, .nl]) s54 C6 (Am rfl) rfl (Cr rfl) rfl fun H s55 => Av s55 (.here) rfl ?_))))))
 have e : Az false p = (⟨p.fType, false, 0, false, p.fId, ⟨#[]⟩, ⟨#[]⟩, ⟨#[]⟩, 0, false, 0, false, ⟨#[]⟩, ⟨#[]⟩, 0, false, false, ⟨#[]⟩, false, ⟨#[]⟩, 0, false, [], [], []⟩ : PacketV) := by
  simp only [Cs] at h8 h36 h40 h50 h53
  simp [Az, Ea, D9, Bj, h8, h36, h40, h50, h53]
 rw [e] at hk
 exact hk _ _ (fun L' => (Ge (.cons .nl (Ge (.cons .nl (K7 (.cons .nl (H5 (.cons .nl (.cons .nl (.cons .nl .nil))))))))))) s55.tail.tail.tail
 refine Ax h53 (Bd (Aa ((decide (p.fType = 6))) (fun h56 => ?_) (fun h56 => ?_)))
 refine Au h56 (Au h56 (Ab (o' := 4) rfl (Aq (c := si p.fId) s7 Do rfl (Ab (o' := 4) rfl (A8 s7 (.here) rfl rfl fun H s57 => Av s57 (.here) rfl (Cm (cs' := [si p.fType, bF, i0, bF, si p.fId, sE, .nl, sE, i0, bF, i0, bF, sE, .nl, i0, bF, bF, sE, bF, .nl, i0, bF, .nl, .nl, .nl]) s57 C6 (Am rfl) rfl (Cr rfl) rfl fun H s58 => Av s58 (.here) rfl ?_))))))
 have e : Az false p = (⟨p.fType, false, 0, false, p.fId, ⟨#[]⟩, ⟨#[]⟩, ⟨#[]⟩, 0, false, 0, false, ⟨#[]⟩, ⟨#[]⟩, 0, false, false, ⟨#[]⟩, false, ⟨#[]⟩, 0, false, [], [], []⟩ : PacketV) := by
  simp only [Cs] at h8 h36 h40 h50 h53 h56
  simp [Az, Ea, D9, Bj, h8, h36, h40, h50, h53, h56]
 rw [e] at hk
 exact hk _ _ (fun L' => (Ge (.cons .nl (Ge (.cons .nl (K7 (.cons .nl (H5 (.cons .nl (.cons .nl (.cons .nl .nil))))))))))) s58.tail.tail.tail
 refine Ax h56 (Bd (Aa ((decide (p.fType = 7))) (fun h59 => ?_) (fun h59 => ?_)))
 refine Au h59 (Au h59 (Ab (o' := 4) rfl (Aq (c := si p.fId) s7 Do rfl (Ab (o' := 4) rfl (A8 s7 (.here) rfl rfl fun H s60 => Av s60 (.here) rfl (Cm (cs' := [si p.fType, bF, i0, bF, si p.fId, sE, .nl, sE, i0, bF, i0, bF, sE, .nl, i0, bF, bF, sE, bF, .nl, i0, bF, .nl, .nl, .nl]) s60 C6 (Am rfl) rfl (Cr rfl) rfl fun H s61 => Av s61 (.here) rfl ?_))))))
 have e : Az false p = (⟨p.fType, false, 0, false, p.fId, ⟨#[]⟩, ⟨#[]⟩, ⟨#[]⟩, 0, false, 0, false, ⟨#[]⟩, ⟨#[]⟩, 0, false, false, ⟨#[]⟩, false, ⟨#[]⟩, 0, false, [], [], []⟩ : PacketV) := by
  simp only [Cs] at h8 h36 h40 h50 h53 h56 h59
  simp [Az, Ea, D9, Bj, h8, h36, h40, h50, h53, h56, h59]
 rw [e] at hk
 exact hk _ _ (fun L' => (Ge (.cons .nl (Ge (.cons .nl (K7 (.cons .nl (H5 (.cons .nl (.cons .nl (.cons .nl .nil))))))))))) s61.tail.tail.tail
 refine Ax h59 (Bd (Aa ((decide (p.fType = 11))) (fun h62 => ?_) (fun h62 => ?_)))
 refine Au h62 (Ab (o' := 4) rfl (Aq (c := si p.fId) s7 Do rfl (Ab (o' := 4) rfl (A8 s7 (.here) rfl rfl fun H s63 => Av s63 (.here) rfl (Cm (cs' := [si p.fType, bF, i0, bF, si p.fId, sE, .nl, sE, i0, bF, i0, bF, sE, .nl, i0, bF, bF, sE, bF, .nl, i0, bF, .nl, .nl, .nl]) s63 C6 (Am rfl) rfl (Cr rfl) rfl fun H s64 => Av s64 (.here) rfl ?_)))))
 have e : Az false p = (⟨p.fType, false, 0, false, p.fId, ⟨#[]⟩, ⟨#[]⟩, ⟨#[]⟩, 0, false, 0, false, ⟨#[]⟩, ⟨#[]⟩, 0, false, false, ⟨#[]⟩, false, ⟨#[]⟩, 0, false, [], [], []⟩ : PacketV) := by
  simp only [Cs] at h8 h36 h40 h50 h53 h56 h59 h62
  simp [Az, Ea, D9, Bj, h8, h36, h40, h50, h53, h56, h59, h62]
 rw [e] at hk
 exact hk _ _ (fun L' => (Ge (.cons .nl (Ge (.cons .nl (K7 (.cons .nl (H5 (.cons .nl (.cons .nl (.cons .nl .nil))))))))))) s64.tail.tail.tail
 refine Ax h62 (Bd (Aa ((decide (p.fType = 8))) (fun h65 => ?_) (fun h65 => ?_)))
 refine Au h65 (Ab (o' := 4) rfl (Aq (c := si p.fId) s7 Do rfl (Ab (o' := 22) rfl (Ab (o' := 4) rfl (F7 s7 Do (Wx (.here)) (Aq (c := Dk Cj p.fWants) s7 Do rfl (He (A8 s7 (.here) rfl rfl fun H s66 => Ab (o' := 22) rfl (A8 s66 (.here) rfl rfl fun H s67 => Av s67 (.here) rfl (Cm (cs' := [si p.fType, bF, i0, bF, si p.fId, sE, .nl, sE, i0, bF, i0, bF, sE, .nl, i0, bF, bF, sE, bF, .nl, i0, bF, Dk Cj p.fWants, .nl, .nl]) s67 C6 (Am rfl) rfl (Cr rfl) rfl fun H s68 => Av s68 (.here) rfl ?_))))))))))
 have e : Az false p = (⟨p.fType, false, 0, false, p.fId, ⟨#[]⟩, ⟨#[]⟩, ⟨#[]⟩, 0, false, 0, false, ⟨#[]⟩, ⟨#[]⟩, 0, false, false, ⟨#[]⟩, false, ⟨#[]⟩, 0, false, p.fWants, [], []⟩ : PacketV) := by
  simp only [Cs] at h8 h36 h40 h50 h53 h56 h59 h62 h65
  simp [Az, Ea, D9, Bj, h8, h36, h40, h50, h53, h56, h59, h62, h65]
 rw [e] at hk
 exact hk _ _ (fun L' => (Ge (.cons .nl (Ge (.cons .nl (K7 (.cons .nl (H5 (.cons .ro (.cons .nl (.cons .nl .nil))))))))))) s68.tail.tail.tail
 refine Ax h65 (Bd (Aa ((decide (p.fType = 9))) (fun h69 => ?_) (fun h69 => ?_)))
 refine Au h69 (Ab (o' := 4) rfl (Aq (c := si p.fId) s7 Do rfl (Ab (o' := 24) rfl (Ab (o' := 4) rfl (F7 s7 Do (Wx (.here)) (Aq (c := E1 p.fCodes) s7 Do rfl (He (A8 s7 (.here) rfl rfl fun H s70 => Ab (o' := 24) rfl (A8 s70 (.here) rfl rfl fun H s71 => Av s71 (.here) rfl (Cm (cs' := [si p.fType, bF, i0, bF, si p.fId, sE, .nl, sE, i0, bF, i0, bF, sE, .nl, i0, bF, bF, sE, bF, .nl, i0, bF, .nl, .nl, E1 p.fCodes]) s71 C6 (Am rfl) rfl (Cr rfl) rfl fun H s72 => Av s72 (.here) rfl ?_))))))))))
 have e : Az false p = (⟨p.fType, false, 0, false, p.fId, ⟨#[]⟩, ⟨#[]⟩, ⟨#[]⟩, 0, false, 0, false, ⟨#[]⟩, ⟨#[]⟩, 0, false, false, ⟨#[]⟩, false, ⟨#[]⟩, 0, false, [], [], p.fCodes⟩ : PacketV) := by
  simp only [Cs] at h8 h36 h40 h50 h53 h56 h59 h62 h65 h69
  simp [Az, Ea, D9, Bj, h8, h36, h40, h50, h53, h56, h59, h62, h65, h69]
 rw [e] at hk
 exact hk _ _ (fun L' => (Ge (.cons .nl (Ge (.cons .nl (K7 (.cons .nl (H5 (.cons .nl (.cons .nl (.cons .ro .nil))))))))))) s72.tail.tail.tail
 refine Ax h69 (Bd (Aa ((decide (p.fType = 10))) (fun h73 => ?_) (fun h73 => ?_)))
 refine Au h73 (Ab (o' := 4) rfl (Aq (c := si p.fId) s7 Do rfl (Ab (o' := 23) rfl (Ab (o' := 4) rfl (F7 s7 Do (Wx (.here)) (Aq (c := E3 p.fNames) s7 Do rfl (He (A8 s7 (.here) rfl rfl fun H s74 => Ab (o' := 23) rfl (A8 s74 (.here) rfl rfl fun H s75 => Av s75 (.here) rfl (Cm (cs' := [si p.fType, bF, i0, bF, si p.fId, sE, .nl, sE, i0, bF, i0, bF, sE, .nl, i0, bF, bF, sE, bF, .nl, i0, bF, .nl, E3 p.fNames, .nl]) s75 C6 (Am rfl) rfl (Cr rfl) rfl fun H s76 => Av s76 (.here) rfl ?_))))))))))
 have e : Az false p = (⟨p.fType, false, 0, false, p.fId, ⟨#[]⟩, ⟨#[]⟩, ⟨#[]⟩, 0, false, 0, false, ⟨#[]⟩, ⟨#[]⟩, 0, false, false, ⟨#[]⟩, false, ⟨#[]⟩, 0, false, [], p.fNames, []⟩ : PacketV) := by
  simp only [Cs] at h8 h36 h40 h50 h53 h56 h59 h62 h65 h69 h73
  simp [Az, Ea, D9, Bj, h8, h36, h40, h50, h53, h56, h59, h62, h65, h69, h73]
 rw [e] at hk
 exact hk _ _ (fun L' => (Ge (.cons .nl (Ge (.cons .nl (K7 (.cons .nl (H5 (.cons .nl (.cons .ro (.cons .nl .nil))))))))))) s76.tail.tail.tail
 refine Ax h73 (Av s7 (.here) rfl (Cm (cs' := [si p.fType, bF, i0, bF, i0, sE, .nl, sE, i0, bF, i0, bF, sE, .nl, i0, bF, bF, sE, bF, .nl, i0, bF, .nl, .nl, .nl]) s7 C6 (Am rfl) rfl (Cr rfl) rfl fun H s77 => Av s77 (.here) rfl ?_))
 have e : Az false p = (⟨p.fType, false, 0, false, 0, ⟨#[]⟩, ⟨#[]⟩, ⟨#[]⟩, 0, false, 0, false, ⟨#[]⟩, ⟨#[]⟩, 0, false, false, ⟨#[]⟩, false, ⟨#[]⟩, 0, false, [], [], []⟩ : PacketV) := by
  simp only [Cs] at h8 h36 h40 h50 h53 h56 h59 h62 h65 h69 h73
  simp [Az, Ea, D9, Bj, h8, h36, h40, h50, h53, h56, h59, h62, h65, h69, h73]
 rw [e] at hk
 exact hk _ _ (fun L' => (Ge (.cons .nl (Ge (.cons .nl (K7 (.cons .nl (H5 (.cons .nl (.cons .nl (.cons .nl .nil))))))))))) s77.tail.tail.tail
theorem T1 (n : Nat) (hn : 1048576 < n) (p : PacketV) {β : Type} {G : Option β → Prop} {KH : KO β} {H : Ae} {L : List Ck} (s0 : Sep H (L)) (hk : ∀ raw H', (∀ L', VwL L' 7 raw (A0 (Az true p))) → Sep H' L → Gd G (KH (.agg raw) H')) : Gd G (Ff E0 (n + 1) β 90 [.agg (A0 p)] H fun x H => KH x H) := by
 rw [AhB, f90]
 try simp only [Fx, Fk, Bx, A9, Dz, A5, Aw, Bg, Pr.gT, Pr.gF, Pr.hT, Pr.hF, Pr.kT, Pr.kF, Bv, C2]
 refine Lg s0 (F4 (Dg _)) fun i1 H s2 => Hw s2 fun i3 H s4 => Ab (o' := 0) rfl (Aq (c := si p.fType) s4 C6 rfl (Bh (cs := [si p.fType, bF, i0, bF, i0, sE, .nl, sE, i0, bF, i0, bF, sE, .nl, i0, bF, bF, sE, bF, .nl, i0, bF, .nl, .nl, .nl]) rfl (Hw s4 fun i5 H s6 => Cm (cs' := [si p.fType, bF, i0, bF, i0, sE, .nl, sE, i0, bF, i0, bF, sE, .nl, i0, bF, bF, sE, bF, .nl, i0, bF, .nl, .nl, .nl]) s6 (.here) (Am rfl) rfl (Cr rfl) rfl fun H s7 => Ab (o' := 0) rfl (Aq (c := si p.fType) s7 Do rfl (Bd (Aa ((decide (p.fType = 1))) (fun h8 => ?_) (fun h8 => ?_)))))))
 refine Au h8 (Ab (o' := 8) rfl (Aq (c := si p.fLevel) s7 Do rfl (Ab (o' := 8) rfl (A8 s7 (.here) rfl rfl fun H s9 => Ab (o' := 7) rfl (Aq (c := ss p.fClient) s9 Do rfl (Ab (o' := 7) rfl (A8 s9 (.here) rfl rfl fun H s10 => Ab (o' := 9) rfl (Aq (c := sb p.fClean) s10 Do rfl (Ab (o' := 9) rfl (A8 s10 (.here) rfl rfl fun H s11 => Ab (o' := 10) rfl (Aq (c := si p.fKeep) s11 Do rfl (Ab (o' := 10) rfl (A8 s11 (.here) rfl rfl fun H s12 => Ab (o' := 11) rfl (Aq (c := sb p.fHasWill) s12 Do rfl (Dn (Aa (p.fHasWill) (fun h13 => ?_) (fun h13 => ?_)))))))))))))))))
 refine Au h13 (Ab (o' := 11) rfl (A8 s12 (.here) rfl rfl fun H s14 => Ab (o' := 12) rfl (Aq (c := ss p.fWTopic) s14 Do rfl (Ab (o' := 12) rfl (A8 s14 (.here) rfl rfl fun H s15 => Ab (o' := 13) rfl (Aq (c := Ai p.fWBody) s15 Do rfl (Ab (o' := 13) rfl (A8 s15 (.here) rfl rfl fun H s16 => Ab (o' := 14) rfl (Aq (c := si p.fWQos) s16 Do rfl (Ab (o' := 14) rfl (A8 s16 (.here) rfl rfl fun H s17 => Ab (o' := 15) rfl (Aq (c := sb p.fWRetain) s17 Do rfl (Ab (o' := 15) rfl (A8 s17 (.here) rfl rfl fun H s18 => Ab (o' := 16) rfl (Aq (c := sb p.fHasUser) s18 Do rfl (Aa (p.fHasUser) (fun h19 => ?_) (fun h19 => ?_)))))))))))))))))
 refine Au h19 (Ab (o' := 16) rfl (A8 s18 (.here) rfl rfl fun H s20 => Ab (o' := 17) rfl (Aq (c := ss p.fUser) s20 Do rfl (Ab (o' := 17) rfl (A8 s20 (.here) rfl rfl fun H s21 => Ab (o' := 18) rfl (Aq (c := sb p.fHasPass) s21 Do rfl (Aa (p.fHasPass) (fun h22 => ?_) (fun h22 => ?_))))))))
 refine Au h22 (Ab (o' := 18) rfl (A8 s21 (.here) rfl rfl fun H s23 => Ab (o' := 19) rfl (Aq (c := Ai p.fPass) s23 Do rfl (Ab (o' := 19) rfl (A8 s23 (.here) rfl rfl fun H s24 => Av s24 (.here) rfl (Cm (cs' := [si p.fType, bF, i0, bF, i0, sE, .nl, ss p.fClient, si p.fLevel, sb p.fClean, si p.fKeep, bT, ss p.fWTopic, Ai p.fWBody, si p.fWQos, sb p.fWRetain, bT, ss p.fUser, bT, Ai p.fPass, i0, bF, .nl, .nl, .nl]) s24 C6 (Am rfl) rfl (Cr rfl) rfl fun H s25 => Av s25 (.here) rfl ?_))))))
 have e : Az true p = (⟨p.fType, false, 0, false, 0, ⟨#[]⟩, ⟨#[]⟩, p.fClient, p.fLevel, p.fClean, p.fKeep, true, p.fWTopic, p.fWBody, p.fWQos, p.fWRetain, true, p.fUser, true, p.fPass, 0, false, [], [], []⟩ : PacketV) := by
  simp only [Cs] at h8 h13 h19 h22
  simp [Az, Ea, D9, Bj, h8, h13, h19, h22]
 rw [e] at hk
 exact hk _ _ (fun L' => (Ge (.cons .nl (Ge (.cons .ro (K7 (.cons .ro (H5 (.cons .nl (.cons .nl (.cons .nl .nil))))))))))) s25.tail.tail.tail
 refine Ax h22 (Av s21 (.here) rfl (Cm (cs' := [si p.fType, bF, i0, bF, i0, sE, .nl, ss p.fClient, si p.fLevel, sb p.fClean, si p.fKeep, bT, ss p.fWTopic, Ai p.fWBody, si p.fWQos, sb p.fWRetain, bT, ss p.fUser, bF, .nl, i0, bF, .nl, .nl, .nl]) s21 C6 (Am rfl) rfl (Cr rfl) rfl fun H s26 => Av s26 (.here) rfl ?_))
 have e : Az true p = (⟨p.fType, false, 0, false, 0, ⟨#[]⟩, ⟨#[]⟩, p.fClient, p.fLevel, p.fClean, p.fKeep, true, p.fWTopic, p.fWBody, p.fWQos, p.fWRetain, true, p.fUser, false, ⟨#[]⟩, 0, false, [], [], []⟩ : PacketV) := by
  simp only [Cs] at h8 h13 h19 h22
  simp [Az, Ea, D9, Bj, h8, h13, h19, h22]
 rw [e] at hk
 exact hk _ _ (fun L' => (Ge (.cons .nl (Ge (.cons .ro (K7 (.cons .nl (H5 (.cons .nl (.cons .nl (.cons .nl .nil))))))))))) s26.tail.tail.tail
 refine Ax h19 (Av s18 (.here) rfl (Cm (cs' := [si p.fType, bF, i0, bF, i0, sE, .nl, ss p.fClient, si p.fLevel, sb p.fClean, si p.fKeep, bT, ss p.fWTopic, Ai p.fWBody, si p.fWQos, sb p.fWRetain, bF, sE, bF, .nl, i0, bF, .nl, .nl, .nl]) s18 C6 (Am rfl) rfl (Cr rfl) rfl fun H s27 => Av s27 (.here) rfl ?_))
 have e : Az true p = (⟨p.fType, false, 0, false, 0, ⟨#[]⟩, ⟨#[]⟩, p.fClient, p.fLevel, p.fClean, p.fKeep, true, p.fWTopic, p.fWBody, p.fWQos, p.fWRetain, false, ⟨#[]⟩, false, ⟨#[]⟩, 0, false, [], [], []⟩ : PacketV) := by
  simp only [Cs] at h8 h13 h19
  simp [Az, Ea, D9, Bj, h8, h13, h19]
 rw [e] at hk
 exact hk _ _ (fun L' => (Ge (.cons .nl (Ge (.cons .ro (K7 (.cons .nl (H5 (.cons .nl (.cons .nl (.cons .nl .nil))))))))))) s27.tail.tail.tail
 refine Ax h13 (Ab (o' := 16) rfl (Aq (c := sb p.fHasUser) s12 Do rfl (Aa (p.fHasUser) (fun h28 => ?_) (fun h28 => ?_))))
 refine Au h28 (Ab (o' := 16) rfl (A8 s12 (.here) rfl rfl fun H s29 => Ab (o' := 17) rfl (Aq (c := ss p.fUser) s29 Do rfl (Ab (o' := 17) rfl (A8 s29 (.here) rfl rfl fun H s30 => Ab (o' := 18) rfl (Aq (c := sb p.fHasPass) s30 Do rfl (Aa (p.fHasPass) (fun h31 => ?_) (fun h31 => ?_))))))))
 refine Au h31 (Ab (o' := 18) rfl (A8 s30 (.here) rfl rfl fun H s32 => Ab (o' := 19) rfl (Aq (c := Ai p.fPass) s32 Do rfl (Ab (o' := 19) rfl (A8 s32 (.here) rfl rfl fun H s33 => Av s33 (.here) rfl (Cm (cs' := [si p.fType, bF, i0, bF, i0, sE, .nl, ss p.fClient, si p.fLevel, sb p.fClean, si p.fKeep, bF, sE, .nl, i0, bF, bT, ss p.fUser, bT, Ai p.fPass, i0, bF, .nl, .nl, .nl]) s33 C6 (Am rfl) rfl (Cr rfl) rfl fun H s34 => Av s34 (.here) rfl ?_))))))
 have e : Az true p = (⟨p.fType, false, 0, false, 0, ⟨#[]⟩, ⟨#[]⟩, p.fClient, p.fLevel, p.fClean, p.fKeep, false, ⟨#[]⟩, ⟨#[]⟩, 0, false, true, p.fUser, true, p.fPass, 0, false, [], [], []⟩ : PacketV) := by
  simp only [Cs] at h8 h13 h28 h31
  simp [Az, Ea, D9, Bj, h8, h13, h28, h31]
 rw [e] at hk
 exact hk _ _ (fun L' => (Ge (.cons .nl (Ge (.cons .nl (K7 (.cons .ro (H5 (.cons .nl (.cons .nl (.cons .nl .nil))))))))))) s34.tail.tail.tail
 refine Ax h31 (Av s30 (.here) rfl (Cm (cs' := [si p.fType, bF, i0, bF, i0, sE, .nl, ss p.fClient, si p.fLevel, sb p.fClean, si p.fKeep, bF, sE, .nl, i0, bF, bT, ss p.fUser, bF, .nl, i0, bF, .nl, .nl, .nl]) s30 C6 (Am rfl) rfl (Cr rfl) rfl fun H s35 => Av s35 (.here) rfl ?_))
 have e : Az true p = (⟨p.fType, false, 0, false, 0, ⟨#[]⟩, ⟨#[]⟩, p.fClient, p.fLevel, p.fClean, p.fKeep, false, ⟨#[]⟩, ⟨#[]⟩, 0, false, true, p.fUser, false, ⟨#[]⟩, 0, false, [], [], []⟩ : PacketV) := by
  simp only [Cs] at h8 h13 h28 h31
  simp [Az, Ea, D9, Bj, h8, h13, h28, h31]
 rw [e] at hk
 exact hk _ _ (fun L' => (Ge (.cons .nl (Ge (.cons .nl (K7 (.cons .nl (H5 (.cons .nl (.cons .nl (.cons .nl .nil))))))))))) s35.tail.tail.tail
 refine Ax h28 (Av s12 (.here) rfl (Cm (cs' := [si p.fType, bF, i0, bF, i0, sE, .nl, ss p.fClient, si p.fLevel, sb p.fClean, si p.fKeep, bF, sE, .nl, i0, bF, bF, sE, bF, .nl, i0, bF, .nl, .nl, .nl]) s12 C6 (Am rfl) rfl (Cr rfl) rfl fun H s36 => Av s36 (.here) rfl ?_))
 have e : Az true p = (⟨p.fType, false, 0, false, 0, ⟨#[]⟩, ⟨#[]⟩, p.fClient, p.fLevel, p.fClean, p.fKeep, false, ⟨#[]⟩, ⟨#[]⟩, 0, false, false, ⟨#[]⟩, false, ⟨#[]⟩, 0, false, [], [], []⟩ : PacketV) := by
  simp only [Cs] at h8 h13 h28
  simp [Az, Ea, D9, Bj, h8, h13, h28]
 rw [e] at hk
 exact hk _ _ (fun L' => (Ge (.cons .nl (Ge (.cons .nl (K7 (.cons .nl (H5 (.cons .nl (.cons .nl (.cons .nl .nil))))))))))) s36.tail.tail.tail
 refine Ax h8 (Bd (Aa ((decide (p.fType = 2))) (fun h37 => ?_) (fun h37 => ?_)))
 refine Au h37 (Ab (o' := 20) rfl (Aq (c := si p.fCode) s7 Do rfl (Ab (o' := 20) rfl (A8 s7 (.here) rfl rfl fun H s38 => Ab (o' := 21) rfl (Aq (c := sb p.fPresent) s38 Do rfl (Aa (p.fPresent) (fun h39 => ?_) (fun h39 => ?_)))))))
 refine Af h39 (Ab (o' := 20) rfl (Af h39 (Aq (c := si p.fCode) s38 Do rfl (Af h39 (Bd (B4 h39 (Ab (o' := 21) rfl (A8 s38 (.here) rfl rfl fun H s40 => Av s40 (.here) rfl (Cm (cs' := [si p.fType, bF, i0, bF, i0, sE, .nl, sE, i0, bF, i0, bF, sE, .nl, i0, bF, bF, sE, bF, .nl, si p.fCode, sb (decide (p.fCode = 0)), .nl, .nl, .nl]) s40 C6 (Am rfl) rfl (Cr rfl) rfl fun H s41 => Av s41 (.here) rfl ?_)))))))))
 have e : Az true p = (⟨p.fType, false, 0, false, 0, ⟨#[]⟩, ⟨#[]⟩, ⟨#[]⟩, 0, false, 0, false, ⟨#[]⟩, ⟨#[]⟩, 0, false, false, ⟨#[]⟩, false, ⟨#[]⟩, p.fCode, (decide (p.fCode = 0)), [], [], []⟩ : PacketV) := by
  simp only [Cs] at h8 h37 h39
  simp [Az, Ea, D9, Bj, h8, h37, h39]
 rw [e] at hk
 exact hk _ _ (fun L' => (Ge (.cons .nl (Ge (.cons .nl (K7 (.cons .nl (H5 (.cons .nl (.cons .nl (.cons .nl .nil))))))))))) s41.tail.tail.tail
 refine Ac h39 (Ac h39 (Ac h39 (A6 h39 (Ab (o' := 21) rfl (A8 s38 (.here) rfl rfl fun H s42 => Av s42 (.here) rfl (Cm (cs' := [si p.fType, bF, i0, bF, i0, sE, .nl, sE, i0, bF, i0, bF, sE, .nl, i0, bF, bF, sE, bF, .nl, si p.fCode, bF, .nl, .nl, .nl]) s42 C6 (Am rfl) rfl (Cr rfl) rfl fun H s43 => Av s43 (.here) rfl ?_))))))
 have e : Az true p = (⟨p.fType, false, 0, false, 0, ⟨#[]⟩, ⟨#[]⟩, ⟨#[]⟩, 0, false, 0, false, ⟨#[]⟩, ⟨#[]⟩, 0, false, false, ⟨#[]⟩, false, ⟨#[]⟩, p.fCode, false, [], [], []⟩ : PacketV) := by
  simp only [Cs] at h8 h37 h39
  simp [Az, Ea, D9, Bj, h8, h37, h39]
 rw [e] at hk
 exact hk _ _ (fun L' => (Ge (.cons .nl (Ge (.cons .nl (K7 (.cons .nl (H5 (.cons .nl (.cons .nl (.cons .nl .nil))))))))))) s43.tail.tail.tail
 refine Ax h37 (Bd (Aa ((decide (p.fType = 3))) (fun h44 => ?_) (fun h44 => ?_)))
 refine Au h44 (Ab (o' := 2) rfl (Aq (c := si p.fQos) s7 Do rfl (Ab (o' := 2) rfl (A8 s7 (.here) rfl rfl fun H s45 => Ab (o' := 3) rfl (Aq (c := sb p.fRetain) s45 Do rfl (Ab (o' := 3) rfl (A8 s45 (.here) rfl rfl fun H s46 => Ab (o' := 5) rfl (Aq (c := ss p.fTopic) s46 Do rfl (Ab (o' := 5) rfl (A8 s46 (.here) rfl rfl fun H s47 => Ab (o' := 6) rfl (Aq (c := Ai p.fBody) s47 Do rfl (Ab (o' := 6) rfl (A8 s47 (.here) rfl rfl fun H s48 => Ab (o' := 2) rfl (Aq (c := si p.fQos) s48 Do rfl (Eo (Aa ((decide (0 < p.fQos))) (fun h49 => ?_) (fun h49 => ?_)))))))))))))))))
 refine Au h49 (Ab (o' := 1) rfl (Aq (c := sb p.fDup) s48 Do rfl (Ab (o' := 1) rfl (A8 s48 (.here) rfl rfl fun H s50 => Ab (o' := 4) rfl (Aq (c := si p.fId) s50 Do rfl (Ab (o' := 4) rfl (A8 s50 (.here) rfl rfl fun H s51 => Av s51 (.here) rfl (Cm (cs' := [si p.fType, sb p.fDup, si p.fQos, sb p.fRetain, si p.fId, ss p.fTopic, Ai p.fBody, sE, i0, bF, i0, bF, sE, .nl, i0, bF, bF, sE, bF, .nl, i0, bF, .nl, .nl, .nl]) s51 C6 (Am rfl) rfl (Cr rfl) rfl fun H s52 => Av s52 (.here) rfl ?_))))))))
 have e : Az true p = (⟨p.fType, p.fDup, p.fQos, p.fRetain, p.fId, p.fTopic, p.fBody, ⟨#[]⟩, 0, false, 0, false, ⟨#[]⟩, ⟨#[]⟩, 0, false, false, ⟨#[]⟩, false, ⟨#[]⟩, 0, false, [], [], []⟩ : PacketV) := by
  simp only [Cs] at h8 h37 h44 h49
  simp [Az, Ea, D9, Bj, h8, h37, h44, h49]
 rw [e] at hk
 exact hk _ _ (fun L' => (Ge (.cons .ro (Ge (.cons .nl (K7 (.cons .nl (H5 (.cons .nl (.cons .nl (.cons .nl .nil))))))))))) s52.tail.tail.tail
 refine Ax h49 (Av s48 (.here) rfl (Cm (cs' := [si p.fType, bF, si p.fQos, sb p.fRetain, i0, ss p.fTopic, Ai p.fBody, sE, i0, bF, i0, bF, sE, .nl, i0, bF, bF, sE, bF, .nl, i0, bF, .nl, .nl, .nl]) s48 C6 (Am rfl) rfl (Cr rfl) rfl fun H s53 => Av s53 (.here) rfl ?_))
 have e : Az true p = (⟨p.fType, false, p.fQos, p.fRetain, 0, p.fTopic, p.fBody, ⟨#[]⟩, 0, false, 0, false, ⟨#[]⟩, ⟨#[]⟩, 0, false, false, ⟨#[]⟩, false, ⟨#[]⟩, 0, false, [], [], []⟩ : PacketV) := by
  simp only [Cs] at h8 h37 h44 h49
  simp [Az, Ea, D9, Bj, h8, h37, h44, h49]
 rw [e] at hk
 exact hk _ _ (fun L' => (Ge (.cons .ro (Ge (.cons .nl (K7 (.cons .nl (H5 (.cons .nl (.cons .nl (.cons .nl .nil))))))))))) s53.tail.tail.tail
 refine Ax h44 (Bd (Dn (Aa ((decide (p.fType = 4))) (fun h54 => ?_) (fun h54 => ?_))))
 refine Au h54 (Au h54 (Ab (o' := 4) rfl (Aq (c := si p.fId) s7 Do rfl (Ab (o' := 4) rfl (A8 s7 (.here) rfl rfl fun H s55 => Av s55 (.here) rfl (Cm (cs' := [si p.fType, bF, i0, bF, si p.fId, sE, .nl, sE, i0, bF, i0, bF, sE, .nl, i0, bF, bF, sE, bF, .nl, i0, bF, .nl, .nl, .nl]) s55 C6 (Am rfl) rfl (Cr rfl) rfl fun H s56 => Av s56 (.here) rfl ?_))))))
 have e : Az true p = (⟨p.fType, false, 0, false, p.fId, ⟨#[]⟩, ⟨#[]⟩, ⟨#[]⟩, 0, false, 0, false, ⟨#[]⟩, ⟨#[]⟩, 0, false, false, ⟨#[]⟩, false, ⟨#[]⟩, 0, false, [], [], []⟩ : PacketV) := by
  simp only [Cs] at h8 h37 h44 h54
  simp [Az, Ea, D9, Bj, h8, h37, h44, h54]
 rw [e] at hk
 exact hk _ _ (fun L' => (Ge (.cons .nl (Ge (.cons .nl (K7 (.cons .nl (H5 (.cons .nl (.cons .nl (.cons .nl .nil))))))))))) s56.tail.tail.tail
 refine Ax h54 (Bd (Aa ((decide (p.fType = 5))) (fun h57 => ?_) (fun h57 => ?_)))
 refine Au h57 (Au h57 (Ab (o' := 4) rfl (Aq (c := si p.fId) s7 Do rfl (Ab (o' := 4) rfl (A8 s7 (.here) rfl rfl fun H s58 => Av s58 (.here) rfl (Cm (cs' := [si p.fType, bF, i0, bF, si p.fId, sE, .nl, sE, i0, bF, i0, bF, sE, .nl, i0, bF, bF, sE, bF, .nl, i0, bF, .nl, .nl, .nl]) s58 C6 (Am rfl) rfl (Cr rfl) rfl fun H s59 => Av s59 (.here) rfl ?_))))))
 have e : Az true p = (⟨p.fType, false, 0, false, p.fId, ⟨#[]⟩, ⟨#[]⟩, ⟨#[]⟩, 0, false, 0, false, ⟨#[]⟩, ⟨#[]⟩, 0, false, false, ⟨#[]⟩, false, ⟨#[]⟩, 0, false, [], [], []⟩ : PacketV) := by
  simp only [Cs] at h8 h37 h44 h54 h57
  simp [Az, Ea, D9, Bj, h8, h37, h44, h54, h57]
 rw [e] at hk
 exact hk _ _ (fun L' => (Ge (.cons .nl (Ge (.cons .nl (K7 (.cons .nl (H5 (.cons .nl (.cons .nl (.cons .nl .nil))))))))))) s59.tail.tail.tail
 refine Ax h57 (Bd (Aa ((decide (p.fType = 6))) (fun h60 => ?_) (fun h60 => ?_)))
 refine Au h60 (Au h60 (Ab (o' := 4) rfl (Aq (c := si p.fId) s7 Do rfl (Ab (o' := 4) rfl (A8 s7 (.here) rfl rfl fun H s61 => Av s61 (.here) rfl (Cm (cs' := [si p.fType, bF, i0, bF, si p.fId, sE, .nl, sE, i0, bF, i0, bF, sE, .nl, i0, bF, bF, sE, bF, .nl, i0, bF, .nl, .nl, .nl]) s61 C6 (Am rfl) rfl (Cr rfl) rfl fun H s62 => Av s62 (.here) rfl ?_))))))
 have e : Az true p = (⟨p.fType, false, 0, false, p.fId, ⟨#[]⟩, ⟨#[]⟩, ⟨#[]⟩, 0, false, 0, false, ⟨#[]⟩, ⟨#[]⟩, 0, false, false, ⟨#[]⟩, false, ⟨#[]⟩, 0, false, [], [], []⟩ : PacketV) := by
  simp only [Cs] at h8 h37 h44 h54 h57 h60
  simp [Az, Ea, D9, Bj, h8, h37, h44, h54, h57, h60]
 rw [e] at hk
 exact hk _ _ (fun L' => (Ge (.cons .nl (Ge (.cons .nl (K7 (.cons .nl (H5 (.cons .nl (.cons .nl (.cons .nl .nil))))))))))) s62.tail.tail.tail
 refine Ax h60 (Bd (Aa ((decide (p.fType = 7))) (fun h63 => ?_) (fun h63 => ?_)))
 refine Au h63 (Au h63 (Ab (o' := 4) rfl (Aq (c := si p.fId) s7 Do rfl (Ab (o' := 4) rfl (A8 s7 (.here) rfl rfl fun H s64 => Av s64 (.here) rfl (Cm (cs' := [si p.fType, bF, i0, bF, si p.fId, sE, .nl, sE, i0, bF, i0, bF, sE, .nl, i0, bF, bF, sE, bF, .nl, i0, bF, .nl, .nl, .nl]) s64 C6 (Am rfl) rfl (Cr rfl) rfl fun H s65 => Av s65 (.here) rfl ?_))))))
 have e : Az true p = (⟨p.fType, false, 0, false, p.fId, ⟨#[]⟩, ⟨#[]⟩, ⟨#[]⟩, 0, false, 0, false, ⟨#[]⟩, ⟨#[]⟩, 0, false, false, ⟨#[]⟩, false, ⟨#[]⟩, 0, false, [], [], []⟩ : PacketV) := by
  simp only [Cs] at h8 h37 h44 h54 h57 h60 h63
  simp [Az, Ea, D9, Bj, h8, h37, h44, h54, h57, h60, h63]
 rw [e] at hk
 exact hk _ _ (fun L' => (Ge (.cons .nl (Ge (.cons .nl (K7 (.cons .nl (H5 (.cons .nl (.cons .nl (.cons .nl .nil))))))))))) s65.tail.tail.tail
 refine Ax h63 (Bd (Aa ((decide (p.fType = 11))) (fun h66 => ?_) (fun h66 => ?_)))
 refine Au h66 (Ab (o' := 4) rfl (Aq (c := si p.fId) s7 Do rfl (Ab (o' := 4) rfl (A8 s7 (.here) rfl rfl fun H s67 => Av s67 (.here) rfl (Cm (cs' := [si p.fType, bF, i0, bF, si p.fId, sE, .nl, sE, i0, bF, i0, bF, sE, .nl, i0, bF, bF, sE, bF, .nl, i0, bF, .nl, .nl, .nl]) s67 C6 (Am rfl) rfl (Cr rfl) rfl fun H s68 => Av s68 (.here) rfl ?_)))))
 have e : Az true p = (⟨p.fType, false, 0, false, p.fId, ⟨#[]⟩, ⟨#[]⟩, ⟨#[]⟩, 0, false, 0, false, ⟨#[]⟩, ⟨#[]⟩, 0, false, false, ⟨#[]⟩, false, ⟨#[]⟩, 0, false, [], [], []⟩ : PacketV) := by
  simp only [Cs] at h8 h37 h44 h54 h57 h60 h63 h66
  simp [Az, Ea, D9, Bj, h8, h37, h44, h54, h57, h60, h63, h66]
 rw [e] at hk
 exact hk _ _ (fun L' => (Ge (.cons .nl (Ge (.cons .nl (K7 (.cons .nl (H5 (.cons .nl (.cons .nl (.cons .nl .nil))))))))))) s68.tail.tail.tail
 refine Ax h66 (Bd (Aa ((decide (p.fType = 8))) (fun h69 => ?_) (fun h69 => ?_)))
 refine Au h69 (Ab (o' := 4) rfl (Aq (c := si p.fId) s7 Do rfl (Ab (o' := 4) rfl (A8 s7 (.here) rfl rfl fun H s70 => Ab (o' := 22) rfl (Aq (c := Dk Cj p.fWants) s70 Do rfl (Ab (o' := 22) rfl (A8 s70 (.here) rfl rfl fun H s71 => Av s71 (.here) rfl (Cm (cs' := [si p.fType, bF, i0, bF, si p.fId, sE, .nl, sE, i0, bF, i0, bF, sE, .nl, i0, bF, bF, sE, bF, .nl, i0, bF, Dk Cj p.fWants, .nl, .nl]) s71 C6 (Am rfl) rfl (Cr rfl) rfl fun H s72 => Av s72 (.here) rfl ?_))))))))
 have e : Az true p = (⟨p.fType, false, 0, false, p.fId, ⟨#[]⟩, ⟨#[]⟩, ⟨#[]⟩, 0, false, 0, false, ⟨#[]⟩, ⟨#[]⟩, 0, false, false, ⟨#[]⟩, false, ⟨#[]⟩, 0, false, p.fWants, [], []⟩ : PacketV) := by
  simp only [Cs] at h8 h37 h44 h54 h57 h60 h63 h66 h69
  simp [Az, Ea, D9, Bj, h8, h37, h44, h54, h57, h60, h63, h66, h69]
 rw [e] at hk
 exact hk _ _ (fun L' => (Ge (.cons .nl (Ge (.cons .nl (K7 (.cons .nl (H5 (.cons .ro (.cons .nl (.cons .nl .nil))))))))))) s72.tail.tail.tail
 refine Ax h69 (Bd (Aa ((decide (p.fType = 9))) (fun h73 => ?_) (fun h73 => ?_)))
 refine Au h73 (Ab (o' := 4) rfl (Aq (c := si p.fId) s7 Do rfl (Ab (o' := 4) rfl (A8 s7 (.here) rfl rfl fun H s74 => Ab (o' := 24) rfl (Aq (c := E1 p.fCodes) s74 Do rfl (Ab (o' := 24) rfl (A8 s74 (.here) rfl rfl fun H s75 => Av s75 (.here) rfl (Cm (cs' := [si p.fType, bF, i0, bF, si p.fId, sE, .nl, sE, i0, bF, i0, bF, sE, .nl, i0, bF, bF, sE, bF, .nl, i0, bF, .nl, .nl, E1 p.fCodes]) s75 C6 (Am rfl) rfl (Cr rfl) rfl fun H s76 => Av s76 (.here) rfl ?_))))))))
 have e : Az true p = (⟨p.fType, false, 0, false, p.fId, ⟨#[]⟩, ⟨#[]⟩, ⟨#[]⟩, 0, false, 0, false, ⟨#[]⟩, ⟨#[]⟩, 0, false, false, ⟨#[]⟩, false, ⟨#[]⟩, 0, false, [], [], p.fCodes⟩ : PacketV) := by
  simp only [Cs] at h8 h37 h44 h54 h57 h60 h63 h66 h69 h73
  simp [Az, Ea, D9, Bj, h8, h37, h44, h54, h57, h60, h63, h66, h69, h73]
 rw [e] at hk
 exact hk _ _ (fun L' => (Ge (.cons .nl (Ge (.cons .nl (K7 (.cons .nl (H5 (.cons .nl (.cons .nl (.cons .ro .nil))))))))))) s76.tail.tail.tail
 refine Ax h73 (Bd (Aa ((decide (p.fType = 10))) (fun h77 => ?_) (fun h77 => ?_)))
 refine Au h77 (Ab (o' := 4) rfl (Aq (c := si p.fId) s7 Do rfl (Ab (o' := 4) rfl (A8 s7 (.here) rfl rfl fun H s78 => Ab (o' := 23) rfl (Aq (c := E3 p.fNames) s78 Do rfl (Ab (o' := 23) rfl (A8 s78 (.here) rfl rfl fun H s79 => Av s79 (.here) rfl (Cm (cs' := [si p.fType, bF, i0, bF, si p.fId, sE, .nl, sE, i0, bF, i0, bF, sE, .nl, i0, bF, bF, sE, bF, .nl, i0, bF, .nl, E3 p.fNames, .nl]) s79 C6 (Am rfl) rfl (Cr rfl) rfl fun H s80 => Av s80 (.here) rfl ?_))))))))
 have e : Az true p = (⟨p.fType, false, 0, false, p.fId, ⟨#[]⟩, ⟨#[]⟩, ⟨#[]⟩, 0, false, 0, false, ⟨#[]⟩, ⟨#[]⟩, 0, false, false, ⟨#[]⟩, false, ⟨#[]⟩, 0, false, [], p.fNames, []⟩ : PacketV) := by
  simp only [Cs] at h8 h37 h44 h54 h57 h60 h63 h66 h69 h73 h77
  simp [Az, Ea, D9, Bj, h8, h37, h44, h54, h57, h60, h63, h66, h69, h73, h77]
 rw [e] at hk
 exact hk _ _ (fun L' => (Ge (.cons .nl (Ge (.cons .nl (K7 (.cons .nl (H5 (.cons .nl (.cons .ro (.cons .nl .nil))))))))))) s80.tail.tail.tail
 refine Ax h77 (Av s7 (.here) rfl (Cm (cs' := [si p.fType, bF, i0, bF, i0, sE, .nl, sE, i0, bF, i0, bF, sE, .nl, i0, bF, bF, sE, bF, .nl, i0, bF, .nl, .nl, .nl]) s7 C6 (Am rfl) rfl (Cr rfl) rfl fun H s81 => Av s81 (.here) rfl ?_))
 have e : Az true p = (⟨p.fType, false, 0, false, 0, ⟨#[]⟩, ⟨#[]⟩, ⟨#[]⟩, 0, false, 0, false, ⟨#[]⟩, ⟨#[]⟩, 0, false, false, ⟨#[]⟩, false, ⟨#[]⟩, 0, false, [], [], []⟩ : PacketV) := by
  simp only [Cs] at h8 h37 h44 h54 h57 h60 h63 h66 h69 h73 h77
  simp [Az, Ea, D9, Bj, h8, h37, h44, h54, h57, h60, h63, h66, h69, h73, h77]
 rw [e] at hk
 exact hk _ _ (fun L' => (Ge (.cons .nl (Ge (.cons .nl (K7 (.cons .nl (H5 (.cons .nl (.cons .nl (.cons .nl .nil))))))))))) s81.tail.tail.tail
end
end Go.Proofs.YtlcpigdmekgajaaGreatDoor.Abs
