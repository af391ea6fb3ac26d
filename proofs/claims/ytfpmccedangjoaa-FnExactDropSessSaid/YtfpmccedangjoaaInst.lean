/- What is laid into a heap reads as the tree that it was. -/
import Derived.Test.YtfpmccedangjoaaTree
set_option linter.unusedVariables false
set_option linter.unusedSimpArgs false
namespace Go.Proofs.Ytfpmccedangjoaa.Abs
open Go

variable {ti : Nat → Option TI} {tp : Nat → Option (List Nat)}

def okL (f : Nat → AV → Prop) : List Nat → List AV → Prop
  | _, [] => True
  | ts, x :: xs => f (ts.headD 0) x ∧ okL f ts.tail xs

/-- A tree along its type, of a depth below d. -/
def okTr (ti : Nat → Option TI) (tp : Nat → Option (List Nat)) : Nat → Nat → AV → Prop
  | 0, _, _ => False
  | d + 1, ty, x =>
    match x with
    | .sc _ => True
    | .ro n cells => cells.length = n * (((ti ty).bind fun i => ti i.elem).getD default).size ∧ okL (okTr ti tp d) (List.replicate n (((ti ty).bind fun i => ti i.elem).getD default).cty).flatten cells
    | .agg cs => okL (okTr ti tp d) ((ti ty).getD default).cty cs
    | .tup cs => okL (okTr ti tp d) ((tp ty).getD []) cs
    | _ => False

/-- These blocks lie in the heap from number N on. -/
def Lies (H : Heap) (N : Nat) (B : List Blk) : Prop := ∀ (j : Nat) b, B[j]? = some b → H[N + j]? = some b

theorem Lies.left {H : Heap} {N : Nat} {A B : List Blk} (h : Lies H N (A ++ B)) : Lies H N A := fun j b hj => h j b (by rw [List.getElem?_append_left (List.getElem?_eq_some_iff.1 hj).1]; exact hj)
theorem Lies.right {H : Heap} {N : Nat} {A B : List Blk} (h : Lies H N (A ++ B)) : Lies H (N + A.length) B := fun j b hj => by
  have := h (A.length + j) b (by rw [List.getElem?_append_right (by omega), Nat.add_sub_cancel_left]; exact hj)
  rwa [← Nat.add_assoc] at this
theorem Lies.tail {H : Heap} {N : Nat} {x : Blk} {B : List Blk} (h : Lies H N (x :: B)) : Lies H (N + 1) B := fun j b hj => by
  have := h (j + 1) b (by simpa using hj)
  rwa [show N + (j + 1) = N + 1 + j by omega] at this

theorem instL_len (m : Nat) (ts : List Nat) (l : List AV) : (instL ti tp m ts l).1.length = l.length := by
  induction l generalizing m ts with
  | nil => rfl
  | cons x l ih => simp only [instL, List.length_cons, ih]

theorem view_instL {H : Heap} {d : Nat} (hd : ∀ (ty : Nat) (t : AV) (N : Nat), okTr ti tp d ty t → Lies H N (instT ti tp N ty t).2 → viewV H d (instT ti tp N ty t).1 = some t) :
    ∀ (cs : List AV) (ts : List Nat) (N : Nat), okL (okTr ti tp d) ts cs → Lies H N (instL ti tp N ts cs).2 → (instL ti tp N ts cs).1.mapM (viewV H d) = some cs
  | [], ts, N, _, _ => rfl
  | x :: cs, ts, N, h, hl => by
    simp only [instL] at hl ⊢
    have h1 := hd _ x N h.1 hl.left
    have h2 := view_instL hd cs ts.tail _ h.2 hl.right
    simp only [List.mapM_cons, h1, h2, Option.pure_def, Option.bind_eq_bind, Option.bind_some]

theorem view_inst {H : Heap} : ∀ (d ty : Nat) (t : AV) (N : Nat), okTr ti tp d ty t → Lies H N (instT ti tp N ty t).2 → viewV H d (instT ti tp N ty t).1 = some t
  | 0, _, _, _, h, _ => by cases h
  | d + 1, ty, t, N, h, hl => by
    have ih := view_instL (H := H) (d := d) (ti := ti) (tp := tp) (fun ty t N => view_inst d ty t N)
    cases t with
    | sc v => rfl
    | ro n cells =>
      obtain ⟨h1, h2⟩ := (show cells.length = n * (((ti ty).bind fun i => ti i.elem).getD default).size ∧ okL (okTr ti tp d) (List.replicate n (((ti ty).bind fun i => ti i.elem).getD default).cty).flatten cells from h)
      simp only [instT] at hl ⊢
      have hb := hl 0 _ rfl
      have hv := ih cells _ (N + 1) h2 hl.tail
      have hlen := instL_len (ti := ti) (tp := tp) (N + 1) (List.replicate n (((ti ty).bind fun i => ti i.elem).getD default).cty).flatten cells
      show (rdCells H N 0 (n * (((ti ty).bind fun i => ti i.elem).getD default).size)).bind (fun cs => (cs.mapM (viewV H d)).bind fun vs => some (AV.ro n vs)) = _
      rw [Nat.add_zero] at hb
      simp only [rdCells, hb, if_true, List.drop_zero, Nat.zero_add]
      rw [if_pos (by rw [hlen, h1]; exact Nat.le_refl _), ← h1, ← hlen, List.take_length]
      simp only [Option.bind_some]
      rw [hv]
      rfl
    | agg cs =>
      simp only [instT] at hl ⊢
      have hv := ih cs _ N h hl
      show ((instL ti tp N ((ti ty).getD default).cty cs).1.mapM (viewV H d)).bind (fun vs => some (AV.agg vs)) = _
      rw [hv]
      rfl
    | tup cs =>
      simp only [instT] at hl ⊢
      have hv := ih cs _ N h hl
      show ((instL ti tp N ((tp ty).getD []) cs).1.mapM (viewV H d)).bind (fun vs => some (AV.tup vs)) = _
      rw [hv]
      rfl
    | _ => cases h

end Go.Proofs.Ytfpmccedangjoaa.Abs
