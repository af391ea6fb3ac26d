/- One operation, whatever it is: what the evaluator does is what the machine does. -/
import Derived.Test.YtfpmccedangjoaaOpsE
import Derived.Orders
set_option linter.unusedVariables false
namespace Go.Proofs.Ytfpmccedangjoaa.Abs
open Go Go.RowKit

variable {P : Program} {β : Type}

/-- What the evaluator needs of the operation's kind: an operation that only reads. -/
def quietB (ti : Nat → Option TI) : Op → Bool
  | .move _ | .assign _ | .pick _ _ _ | .build _ _ | .load _ _ | .nilCheck _ | .binOp _ _ _ _ _ | .unOp _ _ _ | .fieldAddr _ _ _ | .field _ _ _ | .indexAddr _ _ _ | .index _ _ _ | .slice _ _ _ _ _ | .makeFunc _ _ _ | .extract _ _ => true
  | .convert s d _ =>
    match ti s, ti d with
    | some i, some j => !(i.isStr && j.sl)
    | _, _ => false
  | .call c =>
    match c.callee with
    | .builtin .len => true
    | _ => false
  | _ => false

/-- An operation that reads no memory. -/
def pureB (ti : Nat → Option TI) : Op → Bool
  | .load _ _ => false
  | .convert s d x =>
    match ti s, ti d with
    | some i, some j => !(i.isStr && j.sl) && !(j.isStr && i.sl)
    | _, _ => false
  | op => quietB ti op

/-- The table's own check of an index. -/
def idxB (ti : Nat → Option TI) : Op → Bool
  | .index t _ _ => match ti t with | some i => i.isStr | none => false
  | _ => true

theorem desc_notstr {t : TypeId} {i : TI} (ht : TOk P t i) (h1 : i.ik = none) (h2 : i.isStr = true) : i.sl = false := by
  obtain ⟨d, g1, g2⟩ := ht.desc
  cases d <;> simp [descOk, h1, h2] at g2
  exact g2.2

theorem resolve_builtin (ρ : Operand → Value) (c : Call) (ty : TypeId) (b : Builtin) (h : c.callee = .builtin b) (w : World) :
    (resolve ρ c ty).run P w = .ok { target := .builtin b c.argTypes ty (c.args.map fun | .const _ => true | _ => false), args := c.args.map ρ } w := by
  simp only [resolve, h, Sem.run_pure]
  rfl

theorem quiet_sound {E : Env} (hT : TabOk P E.ti) (cal : Cal) {o : Oper} (hq : quietB E.ti o.op = true) (hx : idxB E.ti o.op = true) {w0 : World} {φ : Phi} {w : World} {H : Heap} (hr : HR w0 φ w H) {tm : Tm} {a : Act} (htm : TR w0 φ tm a)
    {k : AV → Heap → Option β} {r : β} (h : evalOp E.ti (prims E cal β) o.op o.type tm H k = some r) :
    ∃ v u, k v H = some r ∧ VR w0 φ v u ∧ (∀ w', Below w.heap.size w w' → (execOp a.eval o).run P w' = .ok (.value u) w') ∧ (pureB E.ti o.op = true → ∀ w', (execOp a.eval o).run P w' = .ok (.value u) w') := by
  have both : ∀ {v : AV} {u : Value}, k v H = some r → VR w0 φ v u → (∀ w', (execOp a.eval o).run P w' = .ok (.value u) w') →
      ∃ v u, k v H = some r ∧ VR w0 φ v u ∧ (∀ w', Below w.heap.size w w' → (execOp a.eval o).run P w' = .ok (.value u) w') ∧ (pureB E.ti o.op = true → ∀ w', (execOp a.eval o).run P w' = .ok (.value u) w') :=
    fun h1 h2 h3 => ⟨_, _, h1, h2, fun w' _ => h3 w', fun _ => h3⟩
  have fin : ∀ {s : Sem Value}, execOp a.eval o = (do pure (.value (← s))) → (Got w0 φ (fun v => k v H) r fun u => ∀ w, s.run P w = .ok u w) →
      ∃ v u, k v H = some r ∧ VR w0 φ v u ∧ (∀ w', Below w.heap.size w w' → (execOp a.eval o).run P w' = .ok (.value u) w') ∧ (pureB E.ti o.op = true → ∀ w', (execOp a.eval o).run P w' = .ok (.value u) w') := by
    intro s he ⟨v, u, h1, h2, h3⟩
    refine both h1 h2 fun w' => ?_
    rw [he]
    simp only [Sem.run_bind, h3 w', Result.andThen_ok, Sem.run_pure]
  have finL : ∀ {s : Sem Value}, pureB E.ti o.op = false → execOp a.eval o = (do pure (.value (← s))) → (∃ v u, k v H = some r ∧ VR w0 φ v u ∧ ∀ w', Below w.heap.size w w' → s.run P w' = .ok u w') →
      ∃ v u, k v H = some r ∧ VR w0 φ v u ∧ (∀ w', Below w.heap.size w w' → (execOp a.eval o).run P w' = .ok (.value u) w') ∧ (pureB E.ti o.op = true → ∀ w', (execOp a.eval o).run P w' = .ok (.value u) w') := by
    intro s hpu he ⟨v, u, h1, h2, h3⟩
    refine ⟨v, u, h1, h2, fun w' hw => ?_, fun h => by rw [hpu] at h; cases h⟩
    rw [he]
    simp only [Sem.run_bind, h3 w' hw, Result.andThen_ok, Sem.run_pure]
  obtain ⟨dst, op, ty, pos, after, guard⟩ := o
  simp only at hq hx h
  cases op <;> simp only [quietB, Bool.false_eq_true] at hq <;> simp only [evalOp, prims] at h
  case move x => exact both h (ev_VR htm x) fun w' => by simp only [execOp, Sem.run_pure]
  case assign x => exact both h (ev_VR htm x) fun w' => by simp only [execOp, Sem.run_pure]
  case pick c x y =>
    obtain ⟨b, hb, v, u, h1, h2, rfl⟩ := pick_sound (ev_VR htm c) (ev_VR htm x) (ev_VR htm y) h
    exact both h1 h2 fun w' => by simp only [execOp, hb, asBool, Sem.run_bind, Sem.run_pure, Result.andThen_ok]
  case build t parts =>
    split at h
    · rename_i i hi
      split at h
      · rename_i l hagg hp
        obtain ⟨cs, hcs, h⟩ := Option.bind_eq_some_iff.1 h
        obtain ⟨u, g1, g2⟩ := build_sound hT (hT _ _ hi) hagg htm hp hcs
        exact fin rfl ⟨_, u, h, g1, g2⟩
      · cases h
    · cases h
  case load t x =>
    split at h
    · rename_i i hi
      exact finL rfl rfl (load_sound (hT _ _ hi) hr (ev_VR htm x) h)
    · cases h
  case nilCheck x =>
    have hv := ev_VR htm x
    generalize ev tm x = v at h hv
    cases v <;> simp only [pNil] at h <;> try cases h
    · refine both h hv fun w' => ?_
      rw [VR] at hv
      obtain ⟨b, o, sz, _, hv⟩ := hv
      simp only [execOp, hv, Sem.run_pure]
    · refine both h hv fun w' => ?_
      rw [VR] at hv
      obtain ⟨b, o, hv, _⟩ := hv
      simp only [execOp, hv, Sem.run_pure]
    · refine both h hv fun w' => ?_
      rw [VR] at hv
      obtain ⟨xs, ys, hv, _⟩ := hv
      simp only [execOp, hv, Sem.run_pure]
  case binOp op t x y c =>
    split at h
    · rename_i i hi
      split at h
      · rename_i hb
        exact fin rfl (binB_sound (hT _ _ hi) hb x y (w := w) (ev_VR htm x) (ev_VR htm y) h)
      · split at h
        · rename_i hq
          split at h
          · rename_i qs hk
            exact fin rfl (binA_sound hT (hT _ _ hi) hq hk x y (w := w) (ev_VR htm x) (ev_VR htm y) h)
          · cases h
        · exact fin rfl (bin_sound t x y (w := w) (ev_VR htm x) (ev_VR htm y) h)
    · cases h
  case unOp op t x => exact fin rfl (un_sound (w := w) (ev_VR htm x) h)
  case convert s d x =>
    split at h
    · rename_i i j hi hj
      split at h
      · rename_i kd hk
        exact fin rfl (cvI_sound (w := w) (hT _ _ hi) (hT _ _ hj) hk (ev_VR htm x) h)
      · rename_i hk
        split at h
        · rename_i h1 h2
          exact fin rfl (cvSS_sound (w := w) (hT _ _ hi) (hT _ _ hj) h2 (ev_VR htm x) h)
        · rename_i h1 h2
          split at h
          · rename_i e hs he
            split at h
            · rename_i hu
              exact finL (by simp [pureB, hi, hj, h2, hs]) rfl (cvBS_sound (hT _ _ hi) (hT _ _ hj) hs h2 (hT _ _ he) hu hr (ev_VR htm x) h)
            · cases h
          · cases h
        · rename_i h1 h2
          split at h
          · rename_i e hs he
            rw [hi, hj] at hq
            simp [h1, hs] at hq
          · cases h
        · cases h
    · cases h
  case fieldAddr t x f =>
    split at h
    · rename_i i hi
      split at h
      · rename_i o ft hagg hf
        split at h
        · rename_i j hj
          split at h
          · cases h
          · rename_i n hn
            obtain ⟨v, u, h1, h2, h3⟩ := fadr_sound (hT _ _ hi) hagg hf (hT _ _ hj) (by rw [hn]; exact Nat.succ_ne_zero n) hr (ev_VR htm x) h
            exact fin rfl ⟨v, u, h1, h2, h3⟩
        · cases h
      · cases h
    · cases h
  case field t x f =>
    split at h
    · rename_i i hi
      split at h
      · rename_i o ft hagg hf
        split at h
        · rename_i j hj
          exact fin rfl (fld_sound (hT _ _ hi) hagg hf (hT _ _ hj) (ev_VR htm x) h)
        · cases h
      · cases h
    · cases h
  case indexAddr t x y =>
    split at h
    · rename_i i hi
      split at h
      · rename_i j hs hj
        exact fin rfl (iadr_sound (w := w) (hT _ _ hi) hs (hT _ _ hj) (ev_VR htm x) (ev_VR htm y) h)
      · cases h
    · cases h
  case index t x y =>
    simp only [idxB] at hx
    split at hx
    · rename_i i hi
      exact fin rfl (idx_sound (w := w) t (hT _ _ hi) hx (ev_VR htm x) (ev_VR htm y) h)
    · cases hx
  case slice t x lo hi mx =>
    split at h
    · cases h
    · split at h
      · rename_i i hi'
        split at h
        · rename_i hs
          exact fin rfl (sliceS_sound (w := w) (hT _ _ hi') hs htm (ev_VR htm x) h)
        · split at h
          · rename_i j hs hj
            exact fin rfl (slice_sound (w := w) (hT _ _ hi') hs (hT _ _ hj) htm (ev_VR htm x) h)
          · cases h
      · cases h
  case makeFunc f first cap =>
    split at h
    · rename_i g
      have key : ∀ l : List Operand, VRs w0 φ (l.map (ev tm)) (fun q => (l.map a.eval)[q]?) := by
        intro l
        rw [VRs_iff]
        intro q y hq
        rw [List.getElem?_map] at hq
        obtain ⟨x, hx, rfl⟩ := Option.map_eq_some_iff.1 hq
        exact ⟨_, by rw [List.getElem?_map, hx]; rfl, ev_VR htm x⟩
      refine both (u := .func (.func g) (first.map a.eval) (cap.map a.eval)) h ?_ fun w' => by simp only [execOp, Instr.makeFunc, Sem.run_bind, Sem.run_pure, Result.andThen_ok]
      rw [VR]
      have hA : ∀ xs : Array Operand, (xs.toList.map a.eval).toArray = xs.map a.eval := fun xs => by
        apply Array.ext'
        simp
      exact ⟨first.toList.map a.eval, cap.toList.map a.eval, by rw [hA, hA], by simp, by simp, key _, key _⟩
    · cases h
  case extract x i => exact fin rfl (extr_sound (ev_VR htm x) h)
  case call c =>
    split at hq
    · rename_i hc
      rw [hc] at h
      simp only at h
      split at h
      · rename_i x t hb hxs hts
        have hargs : c.args = #[x] := by apply Array.ext'; simpa using hxs
        have htys : c.argTypes = #[t] := by apply Array.ext'; simpa using hts
        have he : ∀ s : Sem Value, s = Builtin.len_ #[t] ty #[a.eval x] → ∀ w', (execOp a.eval ⟨dst, .call c, ty, pos, after, guard⟩).run P w' = ((do pure (.value (← s)) : Sem Next)).run P w' := by
          intro s hs w'
          have hm : (#[x] : Array Operand).map a.eval = #[a.eval x] := by simp
          simp only [execOp, Sem.run_bind, resolve_builtin a.eval c ty .len hc, Result.andThen_ok, invoke, builtin, hargs, htys, hs, hm]
        split at h
        · rename_i i hi
          split at h
          · rename_i hs
            obtain ⟨v, u, h1, h2, h3⟩ := lenS_sound (w := w) (hT _ _ hi) hs (ev_VR htm x) ty h
            exact both h1 h2 fun w' => by rw [he _ rfl w']; simp only [Sem.run_bind, h3 w', Result.andThen_ok, Sem.run_pure]
          · rename_i h0 hs
            obtain ⟨v, u, h1, h2, h3⟩ := len_sound (w := w) (hT _ _ hi) hs (ev_VR htm x) ty h
            exact both h1 h2 fun w' => by rw [he _ rfl w']; simp only [Sem.run_bind, h3 w', Result.andThen_ok, Sem.run_pure]
          · cases h
        · cases h
      · rename_i hb _ _
        cases hb
      · rename_i hb _ _
        cases hb
      · cases h
    · cases hq

end Go.Proofs.Ytfpmccedangjoaa.Abs
